/- hss: the tree below a leaf. -/
import Derived.Test.YtfihlmnbonnekaaGreatHKey
namespace Go.Proofs.YtfihlmnbonnekaaGreat
open Go.RowKit
set_option maxHeartbeats 32000000
set_option linter.unusedVariables false
set_option maxRecDepth 100000 in
theorem slow_anyE {w0 w : World} {b off : Nat} {A Z A' : List Value} {T : TypeId} {L L' : List Ent} (Φ : List Value → World → Prop) (hΦ : ∀ Z w1 w2 cs, Own w1 w2 [(b, cs, T)] → Φ Z w1 → Φ Z w2) (hA : A.length = off) (hA' : A'.length = off) (f : Nat) (fn : Func) (cap : Array Value) (hf : Tryz.prog.funcs[f]? = some fn) (hname : (fn.name == "runtime.NumGoroutine") = false) (hbd : fn.body.isNone = false)
 (H : Own w0 w ((b, A ++ .int .u32 0 :: .int .i32 0 :: Z, T) :: L))
 (hcl : ∀ w1, Own w0 w1 ((b, A ++ .int .u32 0 :: .int .i32 1 :: Z, T) :: L) → Calls Tryz.prog f cap w1 fun e w2 => e = .returned (.tuple #[]) ∧ ∃ Z', Φ Z' w2 ∧ Own w0 w2 ((b, A' ++ .int .u32 0 :: .int .i32 1 :: Z', T) :: L')) :
 Calls Tryz.prog 89 #[.pointer (some ⟨b, off, none⟩), .func (.func f) #[] cap] w fun e w' => e = .returned (.tuple #[]) ∧ ∃ Z', Φ Z' w' ∧ Own w0 w' ((b, A' ++ .int .u32 1 :: .int .i32 0 :: Z', T) :: L') := by
 have c1 := Hh ((H.cell (.head _) (off + 1)).trans (at2 hA).2.1)
 have z1 := Hh (H.fz (.head _) (off + 1))
 have hnot : ∀ (x : Bool) (w : World), (Op.unary .not (.bool x)).run Tryz.prog w = .ok (.bool (!x)) w := fun _ _ => rfl
 have H1 : Hid (Own w0 (w.setCell ⟨b, off + 1, none⟩ (.int .i32 1)) ((b, A ++ .int .u32 0 :: .int .i32 1 :: Z, T) :: L)) := by
  have h := H.setC (i := off + 1) (v := .int .i32 1) (L' := (b, A ++ .int .u32 0 :: .int .i32 1 :: Z, T) :: L) (by rw [(at2 hA).2.2.2]; exact .head)
  exact h
 have hA1 := Hh hA
 have hA2 := Hh hA'
 have hcl' := Hh hcl
 have hΦ' := Hh hΦ
 have hf' := Hh hf
 have hname' := Hh hname
 have hbd' := Hh hbd
 clear H hA hA' hcl hf hname hbd hΦ
 go_enter_defers Tryz.func89, Tryz.ntmps89
 have z1 := tt
 go_wp2_with (first
  | (clear z1; go_at_call 102; refine (lock_free ⟨b, off + 1, none⟩ _ c1.out z1.out).mono ?_; rintro e w1 ⟨rfl, e1⟩; rw [← e1] at H1; clear e1 c1 z1; have z2 := tt)
  | (clear z2; go_at_call 88; refine (bload_any _ ⟨b, off, none⟩ 0 false rfl ((H1.out.cell (.head _) off).trans (at2 hA1.out).1)).mono ?_; rintro e w2 ⟨rfl, e2⟩; subst e2; have z3 := tt)
  | (clear z3; refine st_callC (P := Tryz.prog) (R := fun v w2 => v = .tuple #[] ∧ ∃ Z', Φ Z' w2 ∧ Own w0 w2 ((b, A' ++ .int .u32 0 :: .int .i32 1 :: Z', T) :: L')) (f := f) (cap := cap) (args := cap) (xs := #[]) (ats := #[]) rfl rfl rfl (by simp) hf'.out hname'.out hbd'.out ((hcl'.out _ H1.out).mono fun e w2 h => ⟨_, h.1, rfl, h.2⟩) ?_; intro v20 w3 hr; obtain ⟨e20, Z', hF, H2⟩ := hr; subst e20))
 refine leaves_cons (f := 104) (args := #[.pointer (some ⟨b, off, none⟩), .bool true]) (by simp) (by simp [go_sem]) ?_
 refine (bstore_deferred ⟨b, off, none⟩ (.int .u32 0) .returning _ ((H2.cell (.head _) off).trans (at2 hA2.out).1) (H2.fz (.head _) off)).mono ?_
 rintro e u' w4 ⟨rfl, rfl, e4⟩
 have H4 : Own w0 w4 ((b, A' ++ .int .u32 1 :: .int .i32 1 :: Z', T) :: L') := by
  rw [e4]
  exact H2.drew.setC (by rw [(at2 hA2.out).2.2.1]; exact .head)
 have F4 : Φ Z' w4 := hΦ'.out _ _ _ (A' ++ .int .u32 1 :: .int .i32 1 :: Z') (by rw [e4]; exact (H2.sub1 (.head _)).drew.setC (by rw [(at2 hA2.out).2.2.1]; exact .head)) hF
 clear e4 hF
 refine leaves_cons (f := 103) (args := #[.pointer (some ⟨b, off + 1, none⟩)]) (by simp [settle]) (by simp [go_sem]) ?_
 refine (unlock_deferred ⟨b, off + 1, none⟩ _ _ ((H4.cell (.head _) (off + 1)).trans (at2 hA2.out).2.1) (H4.fz (.head _) (off + 1))).mono ?_
 rintro e u' w5 ⟨rfl, rfl, e5⟩
 have H5 : Own w0 w5 ((b, A' ++ .int .u32 1 :: .int .i32 0 :: Z', T) :: L') := by
  rw [e5]
  exact H4.setC (by rw [(at2 hA2.out).2.2.2]; exact .head)
 have F5 : Φ Z' w5 := hΦ'.out _ _ _ (A' ++ .int .u32 1 :: .int .i32 0 :: Z') (by rw [e5]; exact (H4.sub1 (.head _)).setC (by rw [(at2 hA2.out).2.2.2]; exact .head)) F4
 clear F4
 simp [Leaves, settle, results, Tryz.results89]
 exact ⟨Z', F5, H5⟩
set_option maxRecDepth 100000 in
theorem once_firstE {w0 w : World} {b off : Nat} {A Z A' : List Value} {T : TypeId} {L L' : List Ent} (Φ : List Value → World → Prop) (hΦ : ∀ Z w1 w2 cs, Own w1 w2 [(b, cs, T)] → Φ Z w1 → Φ Z w2) (hA : A.length = off) (hA' : A'.length = off) (f : Nat) (fn : Func) (cap : Array Value) (hf : Tryz.prog.funcs[f]? = some fn) (hname : (fn.name == "runtime.NumGoroutine") = false) (hbd : fn.body.isNone = false)
 (H : Own w0 w ((b, A ++ .int .u32 0 :: .int .i32 0 :: Z, T) :: L))
 (hcl : ∀ w1, Own w0 w1 ((b, A ++ .int .u32 0 :: .int .i32 1 :: Z, T) :: L) → Calls Tryz.prog f cap w1 fun e w2 => e = .returned (.tuple #[]) ∧ ∃ Z', Φ Z' w2 ∧ Own w0 w2 ((b, A' ++ .int .u32 0 :: .int .i32 1 :: Z', T) :: L')) :
 Calls Tryz.prog 67 #[.pointer (some ⟨b, off, none⟩), .func (.func f) #[] cap] w fun e w' => e = .returned (.tuple #[]) ∧ ∃ Z', Φ Z' w' ∧ Own w0 w' ((b, A' ++ .int .u32 1 :: .int .i32 0 :: Z', T) :: L') := by
 have c0 := Hh ((H.cell (.head _) off).trans (at2 hA).1)
 have hs := Hh (slow_anyE Φ hΦ hA hA' f fn cap hf hname hbd H hcl)
 have hnot : ∀ (x : Bool) (w : World), (Op.unary .not (.bool x)).run Tryz.prog w = .ok (.bool (!x)) w := fun _ _ => rfl
 clear hA hA' hf hname hbd hcl H hΦ
 go_enter Tryz.func67, Tryz.ntmps67
 go_wp2_with (first
  | (go_at_call 88; refine (bload_any _ ⟨b, off, none⟩ 0 false rfl c0.out).mono ?_; rintro e w2 ⟨rfl, e2⟩; subst e2)
  | (go_at_call 89; refine hs.out.mono ?_; rintro e w2 ⟨rfl, H2⟩; have HE := Hh H2; clear H2))
 go_end0
 exact ⟨rfl, HE.out⟩
def preQ (q : Nat) : List Value := (List.replicate q low0).flatten
def postQ (q : Nat) : List Value := (List.replicate (31 - q) low0).flatten
theorem length_preQ (q : Nat) : (preQ q).length = 6 * q := by unfold preQ; simp [low0]; omega
def hdQ (ss : List Int) (k l : Int) (t : Value) (q : Nat) : List Value := (u8s ss ++ [.int .i64 k, .int .i64 l, t]) ++ preQ q
def tlQ (tr pb sg : Value) (q : Nat) : List Value := .int .u32 0 :: tr :: pb :: sg :: postQ q
def keyR (ss : List Int) (k l : Int) (t : Value) (q : Nat) (x y tr pb sg : Value) : List Value := hdQ ss k l t q ++ x :: y :: tlQ tr pb sg q
theorem length_hdQ {ss : List Int} (h : ss.length = 48) (k l : Int) (t : Value) (q : Nat) : (hdQ ss k l t q).length = 51 + 6 * q := by
 unfold hdQ
 rw [List.length_append, List.length_append, length_ints, h, length_preQ]
 rfl
theorem keyC_R (ss : List Int) (k l : Int) (t : Value) {q : Nat} (hq : q < 32) : keyC ss k l t lows0 = keyR ss k l t q (.int .u32 0) (.int .i32 0) (.pointer none) (.slice none 0 0) (.slice none 0 0) := by
 have e : lows0 = preQ q ++ (low0 ++ postQ q) := by
  unfold lows0 preQ postQ
  rw [← List.flatten_cons, ← List.flatten_append]
  congr 1
  rw [← List.replicate_succ, List.replicate_append_replicate]
  congr 1
  omega
 unfold keyC keyR hdQ tlQ
 rw [e]
 simp only [List.append_assoc]
 rfl
section
variable {ss : List Int} {k l : Int} {t x y tr pb sg v : Value} {q : Nat}
theorem keyR_s {j : Nat} (hj : (u8s ss)[j]? = some v) : (keyR ss k l t q x y tr pb sg)[j]? = some v := by
 have hl := (List.getElem?_eq_some_iff.1 hj).1
 unfold keyR hdQ
 rw [List.getElem?_append_left (by rw [List.length_append, List.length_append]; omega), List.getElem?_append_left (by rw [List.length_append]; omega), List.getElem?_append_left hl]
 exact hj
theorem keyR_k (h : ss.length = 48) : (keyR ss k l t q x y tr pb sg)[48]? = some (.int .i64 k) ∧ (keyR ss k l t q x y tr pb sg)[49]? = some (.int .i64 l) ∧ (keyR ss k l t q x y tr pb sg)[50]? = some t := by
 have hl : (u8s ss).length = 48 := by rw [length_ints, h]
 have h51 : (u8s ss ++ [.int .i64 k, .int .i64 l, t]).length = 51 := by rw [List.length_append, hl]; rfl
 unfold keyR hdQ
 refine ⟨?_, ?_, ?_⟩ <;> rw [List.getElem?_append_left (by rw [List.length_append, h51]; omega), List.getElem?_append_left (by rw [h51]; decide), List.getElem?_append_right (by omega), hl] <;> rfl
theorem keyR_at (h : ss.length = 48) (i : Nat) : (keyR ss k l t q x y tr pb sg)[51 + 6 * q + i]? = (x :: y :: tlQ tr pb sg q)[i]? := by
 have hl := length_hdQ h k l t q
 unfold keyR
 rw [List.getElem?_append_right (by omega), hl]
 congr 1
 omega
theorem keyR_set (h : ss.length = 48) (i : Nat) : (keyR ss k l t q x y tr pb sg).set (51 + 6 * q + i) v = hdQ ss k l t q ++ (x :: y :: tlQ tr pb sg q).set i v := by
 have hl := length_hdQ h k l t q
 unfold keyR
 rw [List.set_append_right _ _ (by omega), hl]
 congr 2
 omega
theorem keyR_len (h : ss.length = 48) (hq : q < 32) : (keyR ss k l t q x y tr pb sg).length = 243 := by
 have hl := length_hdQ h k l t q
 have hp : (postQ q).length = 6 * (31 - q) := by unfold postQ; simp [low0]; omega
 unfold keyR tlQ
 rw [List.length_append, hl]
 simp only [List.length_cons, hp]
 omega
end
def NewT (B : Nat) (T0 : List Value) : World → Value → Prop := fun w v => ∃ lt, v = .tuple #[.pointer (some ⟨lt, 0, none⟩), .int .i64 0] ∧ B ≤ lt ∧ w.heap[lt]? = some (.cells T0.toArray 74 (0, 0))
def NewTP (B : Nat) (T0 : List Value) : World → Value → Prop := fun w v => ∃ lt, v = .pointer (some ⟨lt, 0, none⟩) ∧ B ≤ lt ∧ w.heap[lt]? = some (.cells T0.toArray 74 (0, 0))
def NewB (B m : Nat) (xs : List Int) : World → Value → Prop := fun w v => ∃ p c, v = .slice p m c ∧ BufS B xs w (.slice p m c) ∧ NewS B (.slice p m c)
def NewBT (B m : Nat) (xs : List Int) : World → Value → Prop := fun w v => ∃ p c, v = .tuple #[.slice p m c, .int .i64 0] ∧ BufS B xs w (.slice p m c) ∧ NewS B (.slice p m c)
theorem heap_mv1 {w w' : World} {b g : Nat} {cs : List Value} {T : TypeId} {x : Obj} (h : Own w w' [(b, cs, T)]) (hg : g ≠ b) (hx : w.heap[g]? = some x) : w'.heap[g]? = some x := by
 rw [h.keep g (Array.getElem?_eq_some_iff.1 hx).1 (by simpa using hg)]; exact hx
theorem heap_mv0 {w w' : World} {g : Nat} {x : Obj} (h : Own w w' []) (hx : w.heap[g]? = some x) : w'.heap[g]? = some x := by
 rw [h.keep g (Array.getElem?_eq_some_iff.1 hx).1 (by simp)]; exact hx
section
variable {B m b : Nat} {T0 : List Value} {xs : List Int} {T : TypeId}
theorem NewT.mono : Mono (NewT B T0) := fun _ _ _ h ⟨lt, h1, h2, h3⟩ => ⟨lt, h1, h2, heap_mv0 h h3⟩
theorem NewTP.mono : Mono (NewTP B T0) := fun _ _ _ h ⟨lt, h1, h2, h3⟩ => ⟨lt, h1, h2, heap_mv0 h h3⟩
theorem NewB.mono : Mono (NewB B m xs) := fun _ _ _ h ⟨p, c, h1, h2, h3⟩ => ⟨p, c, h1, h2.mv h (by simp), h3⟩
theorem NewBT.mono : Mono (NewBT B m xs) := fun _ _ _ h ⟨p, c, h1, h2, h3⟩ => ⟨p, c, h1, h2.mv h (by simp), h3⟩
theorem NewT.pres (hb : b < B) : ∀ w1 w2 v, (∃ cs, Own w1 w2 [(b, cs, T)]) → NewT B T0 w1 v → NewT B T0 w2 v := fun _ _ _ ⟨_, h⟩ ⟨lt, h1, h2, h3⟩ => ⟨lt, h1, h2, heap_mv1 h (by omega) h3⟩
theorem NewTP.pres (hb : b < B) : ∀ w1 w2 v, (∃ cs, Own w1 w2 [(b, cs, T)]) → NewTP B T0 w1 v → NewTP B T0 w2 v := fun _ _ _ ⟨_, h⟩ ⟨lt, h1, h2, h3⟩ => ⟨lt, h1, h2, heap_mv1 h (by omega) h3⟩
theorem NewB.pres (hb : b < B) : ∀ w1 w2 v, (∃ cs, Own w1 w2 [(b, cs, T)]) → NewB B m xs w1 v → NewB B m xs w2 v := fun _ _ _ ⟨_, h⟩ ⟨p, c, h1, h2, h3⟩ => ⟨p, c, h1, h2.mv h (fun k hm => Or.inl (by simp at hm; omega)), h3⟩
theorem NewBT.pres (hb : b < B) : ∀ w1 w2 v, (∃ cs, Own w1 w2 [(b, cs, T)]) → NewBT B m xs w1 v → NewBT B m xs w2 v := fun _ _ _ ⟨_, h⟩ ⟨p, c, h1, h2, h3⟩ => ⟨p, c, h1, h2.mv h (fun k hm => Or.inl (by simp at hm; omega)), h3⟩
end
end Go.Proofs.YtfihlmnbonnekaaGreat
