/- sync.Once and atomic.Int64, by one goroutine: done once, then never again. No condition but what stands in each. -/
import Derived.Test.YtfihlmnbonnekaaPrgA
import Derived.Tactics
import Derived.Tactics2
import Derived.Defers
import Derived.Laws.Pointers
import Derived.Laws.LoneSync
import Derived.RegionTactic
import Derived.RegionCalls
namespace Go.Proofs.Ytfihlmnbonnekaa
open Go.RowKit

theorem Own.setC {w0 w : World} {L L' : List Ent} (H : Own w0 w L) {b i : Nat} {cs : List Value} {T : TypeId} {v : Value} (hm : At L b cs T (cs.set i v) L') : Own w0 (w.setCell ⟨b, i, none⟩ v) L' := by
  rw [setCell_eq_setRow w b i cs.toArray T (0, 0) v (H.here _ _ _ hm.mem), show cs.toArray.setIfInBounds i v = (cs.set i v).toArray by simp]
  exact H.set hm
theorem Own.fz {w0 w : World} {L : List Ent} (H : Own w0 w L) {b : Nat} {cs : List Value} {T : TypeId} (hm : (b, cs, T) ∈ L) (i : Nat) : w.frozen? ⟨b, i, none⟩ = false := by
  unfold World.frozen?
  rw [H.here _ _ _ hm]
  simp

theorem race_off (w : World) : (callFunc 121 #[]).run Try.prog w = .ok (.value (.tuple #[])) w := run_call_mark0 Try.func121 (by kernel_rfl) (by kernel_rfl) (by kernel_rfl) .disable (by kernel_rfl) w
theorem race_on (w : World) : (callFunc 123 #[]).run Try.prog w = .ok (.value (.tuple #[])) w := run_call_mark0 Try.func123 (by kernel_rfl) (by kernel_rfl) (by kernel_rfl) .enable (by kernel_rfl) w
theorem race_acq (a : Addr) (w : World) : (callFunc 124 #[.pointer (some a)]).run Try.prog w = .ok (.value (.tuple #[])) w := run_call_marked Try.func124 (by kernel_rfl) (by kernel_rfl) (by kernel_rfl) .acquire (by kernel_rfl) a w
theorem race_rel (a : Addr) (w : World) : (callFunc 126 #[.pointer (some a)]).run Try.prog w = .ok (.value (.tuple #[])) w := run_call_marked Try.func126 (by kernel_rfl) (by kernel_rfl) (by kernel_rfl) .releaseMerge (by kernel_rfl) a w

section
variable {P : Program} {rest : List Oper} {o : Oper} {a : Act} {w : World}
theorem rn_unsafe {src dst t : TypeId} {x : Operand} (ho : o.op = .convert src dst x) {ad : Addr} (hx : a.eval x = .pointer (some ad)) (hs : P.underlying src = some (.pointer t)) (hd : P.underlying dst = some .unsafePointer) (hsz : (P.info? t).map (fun i => decide (i.size = 0)) = some false) {v : Value} (hc : w.cell? ad = some v) :
    (execOp a.eval o).run P w = .ok (.value (.pointer (some ad))) w := by
  unfold execOp
  simp only [ho, hx, Sem.run_bind, run_convert_to_unsafe hs hd hsz hc, Result.andThen_ok]
  rfl
end

/-- '(*sync/atomic.Bool).Load' -/
theorem bload_any (w : World) (a : Addr) (x : Int) (z : Bool) (hz : (x != 0) = z) (hc : w.cell? a = some (.int .u32 x)) : Calls Try.prog 105 #[.pointer (some a)] w fun e w' => e = .returned (.bool z) ∧ w' = w := by
  subst hz
  have hl := run_call_load (P := Try.prog) Try.func111 (by kernel_rfl) (by kernel_rfl) (by kernel_rfl) .u32 (by kernel_rfl) hc
  go_enter Try.func105, Try.ntmps105
  go_wp2
  go_ret
  exact ⟨rfl, rfl⟩

theorem bstore_deferred (a : Addr) (x : Value) (u : FrameMode) (w : World) (hc : w.cell? a = some x) (hz : w.frozen? a = false) :
    CallsD Try.prog 114 #[.pointer (some a), .bool true] u w fun e u' w' => u' = u ∧ (e = .returned (.tuple #[]) ∧ w' = w.drew.setCell a (.int .u32 1)) := by
  have hc' : w.drew.cell? a = some x := by go_simp
  have hz' : w.drew.frozen? a = false := by go_simp
  have hst := run_call_store (P := Try.prog) Try.func119 (by kernel_rfl) (by kernel_rfl) (by kernel_rfl) (by kernel_rfl) (k := .u32) (y := 1) hc' hz'
  go_enter_d Try.func114, Try.ntmps114
  go_wp2
  go_region_calls
  all_goals (go_end0; exact ⟨rfl, rfl⟩)

set_option maxRecDepth 100000 in
theorem iunlock_any (a : Addr) (w : World) (hc : w.cell? a = some (.int .i32 1)) (hz : w.frozen? a = false) :
    Calls Try.prog 118 #[.pointer (some a)] w fun e w' => e = .returned (.tuple #[]) ∧ w' = w.setCell a (.int .i32 0) := by
  have hd := race_off
  have he := race_on
  have hr := race_rel
  have hadd := run_call_add (P := Try.prog) Try.func127 (by kernel_rfl) (by kernel_rfl) (by kernel_rfl) .i32 (by kernel_rfl) (y := -1) (s := 0) hc hz (by simp [go_sem]; rfl)
  go_enter Try.func118, Try.ntmps118
  go_wp2_with (refine st_val rfl (rn_unsafe rfl rfl rfl rfl rfl hc) ?_)
  go_end0
  exact ⟨rfl, rfl⟩

theorem unlock_deferred (a : Addr) (u : FrameMode) (w : World) (hc : w.cell? a = some (.int .i32 1)) (hz : w.frozen? a = false) :
    CallsD Try.prog 113 #[.pointer (some a)] u w fun e u' w' => u' = u ∧ (e = .returned (.tuple #[]) ∧ w' = w.setCell a (.int .i32 0)) := by
  go_enter_d Try.func113, Try.ntmps113
  go_wp2_with (go_at_call 118; refine (iunlock_any a w hc hz).mono ?_; rintro e w' ⟨rfl, rfl⟩)
  go_end0
  exact ⟨rfl, rfl⟩

set_option maxRecDepth 100000 in
theorem ilock_any (a : Addr) (w : World) (hc : w.cell? a = some (.int .i32 0)) (hz : w.frozen? a = false) :
    Calls Try.prog 117 #[.pointer (some a)] w fun e w' => e = .returned (.tuple #[]) ∧ w' = w.setCell a (.int .i32 1) := by
  have hd := race_off
  have he := race_on
  have ha := race_acq
  have hcas := run_call_cas_hit (P := Try.prog) Try.func122 (by kernel_rfl) (by kernel_rfl) (by kernel_rfl) .i32 (by kernel_rfl) (y := 1) hc hz
  have hc' : (w.setCell a (.int .i32 1)).cell? a = some (.int .i32 1) := World.cell?_setCell_same w a _ hc
  go_enter Try.func117, Try.ntmps117
  go_wp2_with (refine st_val rfl (rn_unsafe rfl rfl rfl rfl rfl hc') ?_)
  refine bodyPost_ret (results_none rfl _ _ _) rfl ?_
  exact ⟨rfl, rfl⟩

theorem lock_free (a : Addr) (w : World) (hc : w.cell? a = some (.int .i32 0)) (hz : w.frozen? a = false) :
    Calls Try.prog 112 #[.pointer (some a)] w fun e w' => e = .returned (.tuple #[]) ∧ w' = w.setCell a (.int .i32 1) := by
  go_enter Try.func112, Try.ntmps112
  go_wp2_with (go_at_call 117; refine (ilock_any a w hc hz).mono ?_; rintro e w' ⟨rfl, rfl⟩)
  go_end0
  exact ⟨rfl, rfl⟩

theorem at2 {A Z : List Value} {off : Nat} (hA : A.length = off) {x y : Value} : (A ++ x :: y :: Z)[off]? = some x ∧ (A ++ x :: y :: Z)[off + 1]? = some y ∧ (∀ v, (A ++ x :: y :: Z).set off v = A ++ v :: y :: Z) ∧ (∀ v, (A ++ x :: y :: Z).set (off + 1) v = A ++ x :: v :: Z) := by
  subst hA
  refine ⟨by simp, by simp, fun v => ?_, fun v => ?_⟩
  · rw [List.set_append_right _ _ (Nat.le_refl _), Nat.sub_self]; rfl
  · rw [List.set_append_right _ _ (by omega), show A.length + 1 - A.length = 1 by omega]; rfl

set_option maxRecDepth 100000 in
set_option maxHeartbeats 1600000 in
/-- what is done once, done: the function that is called turns A, Z, L into A', Z', L' -/
theorem slow_any {w0 w : World} {b off : Nat} {A Z A' Z' : List Value} {T : TypeId} {L L' : List Ent} (hA : A.length = off) (hA' : A'.length = off) (f : Nat) (fn : Func) (cap : Array Value) (hf : Try.prog.funcs[f]? = some fn) (hname : (fn.name == "runtime.NumGoroutine") = false) (hbd : fn.body.isNone = false)
    (H : Own w0 w ((b, A ++ .int .u32 0 :: .int .i32 0 :: Z, T) :: L))
    (hcl : ∀ w1, Own w0 w1 ((b, A ++ .int .u32 0 :: .int .i32 1 :: Z, T) :: L) → Calls Try.prog f cap w1 fun e w2 => e = .returned (.tuple #[]) ∧ Own w0 w2 ((b, A' ++ .int .u32 0 :: .int .i32 1 :: Z', T) :: L')) :
    Calls Try.prog 106 #[.pointer (some ⟨b, off, none⟩), .func (.func f) #[] cap] w fun e w' => e = .returned (.tuple #[]) ∧ Own w0 w' ((b, A' ++ .int .u32 1 :: .int .i32 0 :: Z', T) :: L') := by
  have c1 := Lib.hid ((H.cell (.head _) (off + 1)).trans (at2 hA).2.1)
  have z1 := Lib.hid (H.fz (.head _) (off + 1))
  have hnot : ∀ (x : Bool) (w : World), (Op.unary .not (.bool x)).run Try.prog w = .ok (.bool (!x)) w := fun _ _ => rfl
  have H1 : Hid (Own w0 (w.setCell ⟨b, off + 1, none⟩ (.int .i32 1)) ((b, A ++ .int .u32 0 :: .int .i32 1 :: Z, T) :: L)) := by
    have h := H.setC (i := off + 1) (v := .int .i32 1) (L' := (b, A ++ .int .u32 0 :: .int .i32 1 :: Z, T) :: L) (by rw [(at2 hA).2.2.2]; exact .head)
    exact h
  have hA1 := Lib.hid hA
  have hA2 := Lib.hid hA'
  have hcl' := Lib.hid hcl
  have hf' := Lib.hid hf
  have hname' := Lib.hid hname
  have hbd' := Lib.hid hbd
  clear H hA hA' hcl hf hname hbd
  go_enter_defers Try.func106, Try.ntmps106
  have tok1 : True := trivial
  go_wp2_with (first
    | (clear tok1; go_at_call 112; refine (lock_free ⟨b, off + 1, none⟩ _ c1.out z1.out).mono ?_; rintro e w1 ⟨rfl, e1⟩; rw [← e1] at H1; clear e1 c1 z1; have tok2 : True := trivial)
    | (clear tok2; go_at_call 105; refine (bload_any _ ⟨b, off, none⟩ 0 false rfl ((H1.out.cell (.head _) off).trans (at2 hA1.out).1)).mono ?_; rintro e w2 ⟨rfl, e2⟩; subst e2; have tok3 : True := trivial)
    | (clear tok3; refine st_callC (P := Try.prog) (R := fun v w2 => v = .tuple #[] ∧ Own w0 w2 ((b, A' ++ .int .u32 0 :: .int .i32 1 :: Z', T) :: L')) (f := f) (cap := cap) (args := cap) (xs := #[]) (ats := #[]) rfl rfl rfl (by simp) hf'.out hname'.out hbd'.out ((hcl'.out _ H1.out).mono fun e w2 h => ⟨_, h.1, rfl, h.2⟩) ?_; intro v20 w3 hr; obtain ⟨e20, H2⟩ := hr; subst e20))
  refine leaves_cons (f := 114) (args := #[.pointer (some ⟨b, off, none⟩), .bool true]) (by simp) (by simp [go_sem]) ?_
  refine (bstore_deferred ⟨b, off, none⟩ (.int .u32 0) .returning _ ((H2.cell (.head _) off).trans (at2 hA2.out).1) (H2.fz (.head _) off)).mono ?_
  rintro e u' w4 ⟨rfl, rfl, e4⟩
  have H4 : Own w0 w4 ((b, A' ++ .int .u32 1 :: .int .i32 1 :: Z', T) :: L') := by
    rw [e4]
    exact H2.drew.setC (by rw [(at2 hA2.out).2.2.1]; exact .head)
  clear e4
  refine leaves_cons (f := 113) (args := #[.pointer (some ⟨b, off + 1, none⟩)]) (by simp [settle]) (by simp [go_sem]) ?_
  refine (unlock_deferred ⟨b, off + 1, none⟩ _ _ ((H4.cell (.head _) (off + 1)).trans (at2 hA2.out).2.1) (H4.fz (.head _) (off + 1))).mono ?_
  rintro e u' w5 ⟨rfl, rfl, e5⟩
  have H5 : Own w0 w5 ((b, A' ++ .int .u32 1 :: .int .i32 0 :: Z', T) :: L') := by
    rw [e5]
    exact H4.setC (by rw [(at2 hA2.out).2.2.2]; exact .head)
  simp [Leaves, settle, results, Try.results106]
  exact H5

set_option maxRecDepth 100000 in
/-- '(*sync.Once).Do', not done yet -/
theorem once_first {w0 w : World} {b off : Nat} {A Z A' Z' : List Value} {T : TypeId} {L L' : List Ent} (hA : A.length = off) (hA' : A'.length = off) (f : Nat) (fn : Func) (cap : Array Value) (hf : Try.prog.funcs[f]? = some fn) (hname : (fn.name == "runtime.NumGoroutine") = false) (hbd : fn.body.isNone = false)
    (H : Own w0 w ((b, A ++ .int .u32 0 :: .int .i32 0 :: Z, T) :: L))
    (hcl : ∀ w1, Own w0 w1 ((b, A ++ .int .u32 0 :: .int .i32 1 :: Z, T) :: L) → Calls Try.prog f cap w1 fun e w2 => e = .returned (.tuple #[]) ∧ Own w0 w2 ((b, A' ++ .int .u32 0 :: .int .i32 1 :: Z', T) :: L')) :
    Calls Try.prog 90 #[.pointer (some ⟨b, off, none⟩), .func (.func f) #[] cap] w fun e w' => e = .returned (.tuple #[]) ∧ Own w0 w' ((b, A' ++ .int .u32 1 :: .int .i32 0 :: Z', T) :: L') := by
  have c0 := Lib.hid ((H.cell (.head _) off).trans (at2 hA).1)
  have hs := Lib.hid (slow_any hA hA' f fn cap hf hname hbd H hcl)
  have hnot : ∀ (x : Bool) (w : World), (Op.unary .not (.bool x)).run Try.prog w = .ok (.bool (!x)) w := fun _ _ => rfl
  clear hA hA' hf hname hbd hcl H
  go_enter Try.func90, Try.ntmps90
  go_wp2_with (first
    | (go_at_call 105; refine (bload_any _ ⟨b, off, none⟩ 0 false rfl c0.out).mono ?_; rintro e w2 ⟨rfl, e2⟩; subst e2)
    | (go_at_call 106; refine hs.out.mono ?_; rintro e w2 ⟨rfl, H2⟩))
  go_end0
  exact ⟨rfl, H2⟩

/-- '(*sync.Once).Do', done: nothing is called -/
theorem once_done (w : World) (b off : Nat) (fv : Value) (hc : w.cell? ⟨b, off, none⟩ = some (.int .u32 1)) :
    Calls Try.prog 90 #[.pointer (some ⟨b, off, none⟩), fv] w fun e w' => e = .returned (.tuple #[]) ∧ w' = w := by
  have hnot : ∀ (x : Bool) (w : World), (Op.unary .not (.bool x)).run Try.prog w = .ok (.bool (!x)) w := fun _ _ => rfl
  go_enter Try.func90, Try.ntmps90
  go_wp2_with (go_at_call 105; refine (bload_any _ ⟨b, off, none⟩ 1 true rfl hc).mono ?_; rintro e w2 ⟨rfl, e2⟩; subst e2)
  go_end0
  exact ⟨rfl, rfl⟩

/-- '(*sync/atomic.Int64).Add' -/
theorem iadd_any {w0 w : World} {L L' : List Ent} {b i : Nat} {cs : List Value} {T : TypeId} (n m : Int) (H : Own w0 w L) (hv : cs[i]? = some (.int .i64 n)) (hs : wrap64 (n + m) = n + m) (hm : At L b cs T (cs.set i (.int .i64 (n + m))) L') :
    Calls Try.prog 41 #[.pointer (some ⟨b, i, none⟩), .int .i64 m] w fun e w' => e = .returned (.int .i64 (n + m)) ∧ Own w0 w' L' := by
  have hc : w.cell? ⟨b, i, none⟩ = some (.int .i64 n) := (H.cell hm.mem i).trans hv
  have hadd := run_call_add (P := Try.prog) Try.func71 (by kernel_rfl) (by kernel_rfl) (by kernel_rfl) .i64 (by kernel_rfl) (y := m) (s := n + m) hc (H.fz hm.mem i) (by simp [go_sem]; rw [IntKind.wrap_i64]; unfold wrap64 at hs; exact hs)
  have H2 := Lib.hid (H.setC hm)
  clear H hm hv hs hc
  go_enter Try.func41, Try.ntmps41
  go_wp2
  go_ret
  exact ⟨rfl, H2.out⟩

end Go.Proofs.Ytfihlmnbonnekaa
