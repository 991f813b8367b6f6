/- ots: Derive. And what stands on it. No condition. -/
import Derived.Test.YtfihlmnbonnekaaGreatRefB
import Derived.Test.YtfihlmnbonnekaaGreatPack

/-! ots: Derive. -/
namespace Go.Proofs.YtfihlmnbonnekaaGreat
open Go.RowKit

theorem Own.young {w0 w w' : World} {L : List Ent} {c : Nat} {cs : List Value} {T : TypeId} (H : Own w0 w L) (hu : Own w w' [(c, cs, T)]) (hc : w0.heap.size ≤ c) (hn : c ∉ L.map (·.1)) : Own w0 w' L := by
  refine ⟨hu.os.trans H.os, hu.tape.trans H.tape, hu.output.trans H.output, Nat.le_trans H.size hu.size, fun k hk hkn => ?_, H.nodup, fun b cs1 T1 hm => ?_⟩
  · rw [hu.keep k (Nat.lt_of_lt_of_le hk H.size) (by simp; omega)]
    exact H.keep k hk hkn
  · rw [hu.keep b (H.lt hm) (by simp; rintro rfl; exact hn (List.mem_map.2 ⟨_, hm, rfl⟩))]
    exact H.here b cs1 T1 hm

/-- a chain that is not older than B -/
def IsCh (B : Nat) (pre : List Int) : World → Value → Prop := fun w v => ∃ c ys, v = .pointer (some ⟨c, 0, none⟩) ∧ B ≤ c ∧ pre.length = 22 ∧ ys.length = 33 ∧ w.heap[c]? = some (.cells (u8s (pre ++ ys)).toArray 146 (0, 0))
theorem IsCh.mono {B : Nat} {pre : List Int} : Mono (IsCh B pre) := fun w1 w2 v h ⟨c, ys, h1, h2, h3, h4, h5⟩ => ⟨c, ys, h1, h2, h3, h4, by rw [h.keep c (Array.getElem?_eq_some_iff.1 h5).1 (by simp)]; exact h5⟩
/-- a step that turns such a chain's last bytes -/
def ChE (B : Nat) : World → World → Prop := fun w1 w2 => ∃ c pre ys ys', B ≤ c ∧ pre.length = 22 ∧ ys.length = 33 ∧ ys'.length = 33 ∧ w1.heap[c]? = some (.cells (u8s (pre ++ ys)).toArray 146 (0, 0)) ∧ Own w1 w2 [(c, u8s (pre ++ ys'), 146)]
theorem IsCh.presE {B : Nat} {pre : List Int} : ∀ w1 w2 v, ChE B w1 w2 → IsCh B pre w1 v → IsCh B pre w2 v := fun w1 w2 v ⟨c, p0, ys, ys', hB, hp, hy, hy', hc, ho⟩ ⟨d, zs, h1, h2, h3, h4, h5⟩ => by
  by_cases e : d = c
  · subst e
    rw [hc] at h5
    have e1 : u8s (p0 ++ ys) = u8s (pre ++ zs) := by
      have := Option.some.inj h5
      simp only [Obj.cells.injEq, and_true] at this
      simpa using congrArg Array.toList this
    have e2 : p0 = pre := by
      have e3 : p0 ++ ys = pre ++ zs := (List.map_inj_right (fun x y h => by cases h; rfl)).1 e1
      have h6 := congrArg (List.take 22) e3
      rwa [List.take_left' hp, List.take_left' h3] at h6
    subst e2
    exact ⟨d, ys', h1, h2, h3, hy', ho.here _ _ _ (.head _)⟩
  · exact ⟨d, zs, h1, h2, h3, h4, by rw [ho.keep d (Array.getElem?_eq_some_iff.1 h5).1 (by simpa using e)]; exact h5⟩
theorem NewC.presE {B : Nat} {cs : List Value} {T : TypeId} (hT : T ≠ 146) : ∀ w1 w2 v, ChE B w1 w2 → NewC B cs T w1 v → NewC B cs T w2 v := fun w1 w2 v ⟨c, p0, ys, ys', hB, hp, hy, hy', hc, ho⟩ ⟨d, h1, h2, h5⟩ => by
  have e : d ≠ c := by
    rintro rfl
    rw [hc] at h5
    have := Option.some.inj h5
    simp only [Obj.cells.injEq, and_true] at this
    exact hT this.2.symm
  exact ⟨d, h1, h2, by rw [ho.keep d (Array.getElem?_eq_some_iff.1 h5).1 (by simpa using e)]; exact h5⟩

theorem walk_ch {B : Nat} {pre : List Int} {w0 w : World} {L : List Ent} {v : Value} (hv : IsCh B pre w v) (H : Own w0 w L) (hB : w0.heap.size ≤ B) (hL : ∀ k ∈ L.map (·.1), k < B) (f t : Nat) (hft : f ≤ t) (ht : t ≤ 256) (x : List Int) (hx : x.length = 32) :
    Calls Tryz.prog 76 #[v, .agg (u8s x).toArray, .int .i64 f, .int .i64 t] w fun e w' => e = .returned (.agg (u8s (stepsC pre f x (t - f))).toArray) ∧ ChE B w w' ∧ Own w0 w' L := by
  obtain ⟨c, ys, rfl, h2, h3, h4, h5⟩ := hv
  refine (walk_any w c f t pre ys x hft ht h3 h4 hx (Own.one h5)).mono ?_
  rintro e w' ⟨rfl, ys', hy', ho⟩
  exact ⟨rfl, ⟨c, pre, ys, ys', h2, h3, h4, hy', h5, ho⟩, H.young ho (by omega) (fun hm => by have := hL _ hm; omega)⟩
theorem along_ch (B : Nat) (w : World) (id : List Int) (h16 : id.length = 16) (q i : Nat) (hq : q < 32) (hi : i < 65536) (hB : B ≤ w.heap.size) :
    Calls Tryz.prog 75 #[.agg (u8s id).toArray, .int .i64 q, .int .i64 i] w fun e w' => ∃ r, e = .returned r ∧ IsCh B (pre22 id q i) w' r ∧ Own w w' [] :=
  (along_any w id h16 q i hq hi).mono fun e w' ⟨c, h1, h2, h3⟩ => ⟨_, h1, ⟨c, _, rfl, Nat.le_trans hB h2, length_pre22 h16 q i, by simp, h3.here _ _ _ (.head _)⟩, h3.end0 (by simpa using h2)⟩

end Go.Proofs.YtfihlmnbonnekaaGreat

/-! ots: hash, key. -/
namespace Go.Proofs.YtfihlmnbonnekaaGreat
open Go.RowKit

theorem info_writer : ((Tryz.prog.info? 79).bind (·.zero)).map (fun z => z.cells.toList) = some [.slice none 0 0] := by kernel_rfl

/-- what hash hashes -/
def hashIn (id : List Int) (q n : Nat) (ls : List (List Int)) : List Int := frontq id q ++ numB n 2 ++ ls.flatten

set_option maxRecDepth 100000 in
set_option maxHeartbeats 4000000 in
theorem hash_any (w : World) (id : List Int) (h16 : id.length = 16) (q n : Nat) (hq : q < 32) (hn : n < 65536) (v : Value) (ls : List (List Int)) (hv : LitL ls w v) (hl : ls.flatten.length ≤ 200000) (hl9 : ls.length ≤ 1000) :
    Calls Tryz.prog 74 #[.agg (u8s id).toArray, .int .i64 q, .int .i64 n, v] w fun e w' => e = .returned (.agg (u8s (sha (hashIn id q n ls))).toArray) ∧ Own w w' [] := by
  have H := Own.refl w
  obtain ⟨l, hO, hls⟩ := hv
  have hlen : l.length = ls.length := by rw [← hls, List.length_map]
  obtain ⟨pv, cv, rfl⟩ := hO.addr'
  have O := Lib.hid hO
  obtain ⟨m, hm⟩ : ∃ m, m = l.length := ⟨_, rfl⟩
  rw [← hm] at O hlen ⊢
  have hm' := Lib.hid hm
  have h16' := Lib.hid h16
  have hm9 : m ≤ 1000 := by omega
  obtain ⟨A, hA⟩ : ∃ A, A = frontq id q ++ numB n 2 := ⟨_, rfl⟩
  have hAl : Hid (A.length = 22) := by show _ = _; rw [hA, List.length_append, length_frontq h16, length_numB]
  have hA1 : Hid ([] ++ id ++ numB q 4 ++ numB n 2 = A) := by show _ = _; rw [hA]; rfl
  have hfin : Hid (A ++ flatL l m = hashIn id q n ls) := by show _ = _; rw [hm, LitL.flat hls, hA]; rfl
  have hfl : Hid (∀ i, (flatL l i).length ≤ 200000) := fun i => Nat.le_trans (flatL_le l i) (by rw [LitL.flat hls]; exact hl)
  have hfs : Hid (∀ i x, l[i]? = some x → flatL l (i + 1) = flatL l i ++ x.2) := fun i x h => flatL_succ h
  have hf0 : Hid (flatL l 0 = []) := rfl
  obtain ⟨Z, hZ⟩ : ∃ Z, Z = hashIn id q n ls := ⟨_, rfl⟩
  rw [← hZ] at hfin ⊢
  obtain ⟨F, hF⟩ : ∃ F, F = flatL l := ⟨_, rfl⟩
  rw [← hF] at hfin hfl hfs hf0
  have hZl : Hid (Z.length ≤ 200022) := by show _ ≤ _; rw [← hfin.out, List.length_append, hAl.out]; have := hfl.out m; omega
  clear hO hls hlen hl hl9 hm h16 hA hZ hF
  go_enter Tryz.func74, Tryz.ntmps74
  have tok1 : True := trivial
  go_wp2_with (first
    | (clear tok1; refine st_new rfl (rn_box (cs := u8s id) H rfl rfl rfl) ?_; clear H; intro b4 w1 hb4 H; have tok2 : True := trivial)
    | (clear tok2; refine st_new rfl (rn_alloc H rfl info_hash) ?_; clear H; intro b8 w2 hb8 H; have tok3 : True := trivial)
    | (clear tok3; refine st_new rfl (rn_alloc H rfl info_writer) ?_; clear H; intro b9 w3 hb9 H; have B : Buf 5 .u8 w w3 ((b9, [.slice none 0 0], 79) :: [(b8, u8s (List.replicate 32 0), 24), (b4, u8s id, 22)]) (.slice none 0 0) [] := Buf.nil H; clear H; have tok4 : True := trivial)
    | (refine st_val rfl (rn_sliceAll rfl rfl size_u8 rfl (by omega)) ?_)
    | (clear tok4; go_at_call 39; refine (raw_any _ _ _ _ _ _ B _ id (Own.litM B.own0 (.tail _ (.tail _ (.head _))) h16'.out.symm) (by rw [h16'.out]; decide)).mono ?_; rintro e w4 ⟨rfl, v4, B2⟩; clear B; have B := B2; clear B2; have tok5 : True := trivial)
    | (clear tok5; go_at_call 37; refine (num_any _ _ _ _ _ _ B q 4 (by omega) (by omega) (by rw [List.nil_append, h16'.out]; omega)).mono ?_; rintro e w5 ⟨rfl, v5, B2⟩; clear B; have B := B2; clear B2; have tok6 : True := trivial)
    | (clear tok6; go_at_call 37; refine (num_any _ _ _ _ _ _ B n 2 (by omega) (by omega) (by rw [List.nil_append, List.length_append, h16'.out, length_numB]; omega)).mono ?_; rintro e w6 ⟨rfl, v6, B2⟩; rw [hA1.out] at B2; clear B; have B := B2; clear B2))
  go_loopw [22] (fun v22 wr => ∃ (i : Nat) (u : Value), i ≤ m ∧ v22 = .int .i64 ((i : Nat) : Int) ∧ Buf 5 .u8 w wr ((b9, [u], 79) :: [(b8, u8s (List.replicate 32 0), 24), (b4, u8s id, 22)]) u (A ++ F i)) (fun v22 _ => ((m : Nat) - intOf v22).toNat)
  case atStart => exact ⟨0, v6, by omega, rfl, by rw [hf0.out, List.append_nil]; exact B⟩
  case round =>
    clear B
    obtain ⟨i, u, hi, rfl, B⟩ := hrel
    by_cases hin : i < m
    · obtain ⟨x, hx⟩ : ∃ x, l[i]? = some x := ⟨_, List.getElem?_eq_getElem (by have := hm'.out; omega)⟩
      obtain ⟨hxo, ⟨px, cx, hxs⟩, _⟩ := O.out.el i x hx
      have hFx := Lib.hid (hfs.out i x hx)
      obtain ⟨og, oo, hp0⟩ := O.out.addr (by have := hm'.out; omega)
      subst hp0
      have hcell : Hid (∀ w1 L1, Own w w1 L1 → (∀ b ∈ L1.map (·.1), w.heap.size ≤ b) → w1.cell? ⟨og, oo + (i : Int).toNat * 1, none⟩ = some (.slice px x.2.length cx)) := fun w1 L1 h1 h2 => by rw [← hxs]; exact O.out.cellAt h1 h2 (by simpa using hx)
      have hxo' : Hid (∀ w1 L1, Own w w1 L1 → (∀ b ∈ L1.map (·.1), w.heap.size ≤ b) → BytesAt w1 (.slice px x.2.length cx) x.2) := fun w1 L1 h1 h2 => by rw [← hxs]; exact hxo.at h1 h2
      have hl3 := Lib.hid (hfl.out (i + 1))
      have hl4 : Hid ((F (i + 1)).length = (F i).length + x.2.length) := by show _ = _; rw [hFx.out, List.length_append]
      have hst : Hid (A ++ F i ++ x.2 = A ++ F (i + 1)) := by show _ = _; rw [hFx.out, List.append_assoc]
      obtain ⟨ys, hys⟩ : ∃ ys, x.2 = ys := ⟨_, rfl⟩
      rw [hys] at hcell hxo' hFx hl4 hst
      clear hxo hxs hx hys
      go_wp2_with (first
        | (refine st_val rfl (rn_idxSl (j := (i : Int)) rfl rfl size_sl rfl rfl (by omega) (by omega)) ?_)
        | (refine st_val rfl (rn_cell (i := oo + (i : Int).toNat * 1) rfl rfl rfl rfl (hcell.out _ _ B.own0 (by simp; omega))) ?_)
        | (go_at_call 39; refine (raw_any _ _ _ _ _ _ B _ ys (hxo'.out _ _ B.own0 (by simp; omega)) (by rw [List.length_append, hAl.out]; have := hl3.out; have := hl4.out; omega)).mono ?_; rintro e w7 ⟨rfl, v7, B2⟩; rw [hst.out] at B2; clear B; have B := B2; clear B2))
      exact ⟨⟨i + 1, _, by omega, by go_num, B⟩, by simp [intOf]; omega⟩
    · obtain rfl : i = m := by omega
      rw [hfin.out] at B
      have tok7 : True := trivial
      go_wp2_with (first
        | (clear tok7; go_at_call 40; refine (bytes_any _ b9 u Z (B.own0.sub1 (.head _)) B.bytesAt B.lt (by have := hZl.out; omega)).mono ?_; rintro e w7 ⟨r, rfl, hr, h3⟩; have H := B.own0.call0 h3; clear B h3; have R7 := Lib.hid hr; clear hr; have tok8 : True := trivial)
        | (clear tok8; go_at_call 83; refine (shaSum_any _ _ Z R7.out.2.1 R7.out.2.2 (by have := hZl.out; omega)).mono ?_; rintro e w8 ⟨rfl, h3⟩; have H2 := H.call0 h3; clear H h3 R7; have H := H2; clear H2; have tok9 : True := trivial)
        | (clear tok9; refine st_skip rfl (rn_storeAll (vs := u8s (sha Z)) H rfl rfl rfl (by kernel_rfl) (.tail .head) (by kernel_rfl) (oneCell_ints _ _)) ?_; clear H; intro w9 H))
      refine fin_cell rfl H rfl (.tail _ (.head _)) rfl rfl (by kernel_rfl) rfl ⟨rfl, ?_⟩
      exact H.end0 (by simp; omega)

end Go.Proofs.YtfihlmnbonnekaaGreat

/-! ots: key. -/
namespace Go.Proofs.YtfihlmnbonnekaaGreat
open Go.RowKit

section
variable {P : Program} {ops : Array Oper} {rest : List Oper} {o : Oper} {a : Act} {w : World} {Q : Exit → Act → World → Prop}
/-- a call of a function that stands in a variable -/
theorem st_callC (hg : o.guard = none) {x : Operand} {f : Nat} {fn : Func} {cap : Array Value} {xs : Array Operand} {ats : Array TypeId} {args : Array Value} (hop : o.op = .call { callee := .value x, args := xs, argTypes := ats }) (hx : a.eval x = .func (.func f) #[] cap) (hargs : xs.map a.eval ++ cap = args)
    (hf : P.funcs[f]? = some fn) (hname : (fn.name == "runtime.NumGoroutine") = false) (hb : fn.body.isNone = false) {R : Value → World → Prop} (hc : Calls P f args w fun e w' => ∃ v, e = .returned v ∧ R v w')
    (h : ∀ v w', R v w' → wpList P ops Q rest (a.put o.dst v) w') : wpList P ops Q (o :: rest) a w := by
  have hy : YieldsTo P o a w R := by
    unfold YieldsTo
    rw [run_call_clo hop hx hargs hf hname hb]
    exact hc
  exact wpList_plain hg fun K hK => YieldsTo.wp hy fun v w' hr => hK _ _ (h v w' hr)
end

theorem Buf.callL {e : TypeId} {k : IntKind} {w0 w w' : World} {L Lr Lr' : List Ent} {v : Value} {xs : List Int} (E : Buf e k w0 w (L ++ Lr) v xs) (hu : Own w w' Lr') (hk : Lr'.map (·.1) = Lr.map (·.1)) : Buf e k w0 w' (L ++ Lr') v xs := by
  obtain ⟨Lv, h1, h2, h3⟩ := E
  refine ⟨Lv, h1, ?_, h3⟩
  have p1 : (Lv ++ (L ++ Lr)).Perm (Lr ++ (Lv ++ L)) := by rw [← List.append_assoc]; exact List.perm_append_comm
  have p2 : (Lr' ++ (Lv ++ L)).Perm (Lv ++ (L ++ Lr')) := by rw [← List.append_assoc Lv]; exact List.perm_append_comm
  exact (Own.call (h2.perm p1) ⟨hu, fun j hj => Or.inl (by rw [← hk]; exact hj)⟩ (fun j hj => Or.inl (by rw [hk]; exact hj))).perm p2

theorem chains_k (w : World) (k : Nat) (hk : k = 1 ∨ k = 2 ∨ k = 4 ∨ k = 8) : Calls Tryz.prog 32 #[.int .i64 k] w fun e w' => e = .returned (.int .i64 (chN k)) ∧ Own w w' [] := by
  rcases hk with rfl | rfl | rfl | rfl <;> exact chains_any w _

set_option maxRecDepth 100000 in
set_option maxHeartbeats 4000000 in
theorem key_any (w : World) (id : List Int) (h16 : id.length = 16) (q k : Nat) (hq : q < 32) (hk : k = 1 ∨ k = 2 ∨ k = 4 ∨ k = 8) (f : Nat) (fn : Func) (cap : Array Value) (hf : Tryz.prog.funcs[f]? = some fn) (hname : (fn.name == "runtime.NumGoroutine") = false) (hbd : fn.body.isNone = false)
    (RP : Nat → List Ent → Prop) (K : List Nat) (hkey : ∀ i Lr, RP i Lr → Lr.map (·.1) = K) (X : Nat → List Int) (hXl : ∀ i, (X i).length = 32) (hXb : ∀ i, IsBytes (X i)) (H0 : ∃ Lr, RP 0 Lr ∧ Own w w Lr)
    (hcl : ∀ i, i < chN k → ∀ w' L Lr, RP i Lr → Own w w' (L ++ Lr) → (∀ j ∈ L.map (·.1), w.heap.size ≤ j) → Calls Tryz.prog f (#[.int .i64 i] ++ cap) w' fun e w'' => e = .returned (.agg (u8s (X i)).toArray) ∧ ∃ Lr', RP (i + 1) Lr' ∧ Own w' w'' Lr') :
    Calls Tryz.prog 81 #[.agg (u8s id).toArray, .int .i64 q, .int .i64 k, .func (.func f) #[] cap] w fun e w' => e = .returned (.agg (u8s (endsOf id q (flatX X (chN k)))).toArray) ∧ ∃ Lr, RP (chN k) Lr ∧ Own w w' Lr := by
  obtain ⟨L0, hL0, H0⟩ := H0
  have H : Own w w ([] ++ L0) := H0
  obtain ⟨hC0, hC1⟩ := chN_le k
  have hch := Lib.hid (fun w' => chains_k w' k hk)
  obtain ⟨C, hC⟩ : ∃ C, C = chN k := ⟨_, rfl⟩
  rw [← hC] at hch hC0 hC1 hcl ⊢
  have hXl' := Lib.hid hXl
  have hXb' := Lib.hid hXb
  have hkey' := Lib.hid hkey
  have hcl' := Lib.hid hcl
  have hf' := Lib.hid hf
  have hname' := Lib.hid hname
  have hbd' := Lib.hid hbd
  have hsz := Lib.hid (size_idL h16)
  have hhash : Hid (∀ w' v ls, LitL [ls] w' v → ls.length ≤ 100000 → Calls Tryz.prog 74 #[.agg (u8s id).toArray, .int .i64 q, .int .i64 32896, v] w' fun e w'' => e = .returned (.agg (u8s (endsOf id q ls)).toArray) ∧ Own w' w'' []) := fun w' v ls h hl => by
    have h2 := hash_any w' id h16 q 32896 hq (by omega) v [ls] h (by simp; omega) (by simp)
    rw [show sha (hashIn id q 32896 [ls]) = endsOf id q ls by unfold hashIn endsOf; rw [show numB ((32896 : Nat) : Int) 2 = [128, 128] by kernel_rfl, List.append_assoc]; simp] at h2
    exact h2
  have hL0' := Lib.hid hL0
  clear H0 hL0 hXl hXb hkey hcl hf hname hbd hC h16 hk
  go_enter Tryz.func81, Tryz.ntmps81
  have tok1 : True := trivial
  go_wp2_with (first
    | (clear tok1; refine st_new (g := fun n => [(n, u8s id, 22)] ++ L0) rfl (rn_box (cs := u8s id) H rfl rfl rfl) ?_; clear H; intro b4 w1 hb4 H; have tok2 : True := trivial)
    | (clear tok2; refine st_new (g := fun n => [(n, u8s (List.replicate 32 0), 24), (b4, u8s id, 22)] ++ L0) rfl (rn_alloc H rfl info_hash) ?_; clear H; intro b8 w2 hb8 H; have tok3 : True := trivial)
    | (clear tok3; go_at_call 32; refine (hch.out _).mono ?_; rintro e w3 ⟨rfl, h3⟩; have H2 := H.call0 h3; clear H h3; have H := H2; clear H2))
  have B : Buf 5 .u8 w w3 ([(b8, u8s (List.replicate 32 0), 24), (b4, u8s id, 22)] ++ L0) (.slice none 0 0) [] := Buf.nil H
  clear H
  go_loopw [9, 10, 14] (fun v9 _ v14 wr => ∃ (i : Nat) (p : Option Addr) (c : Nat) (Lr : List Ent), i ≤ C ∧ v14 = .int .i64 ((i : Nat) : Int) ∧ v9 = .slice p (32 * i) c ∧ RP i Lr ∧ Buf 5 .u8 w wr ([(b8, u8s (List.replicate 32 0), 24), (b4, u8s id, 22)] ++ Lr) v9 (flatX X i)) (fun _ _ v14 _ => ((C : Nat) - intOf v14).toNat)
  case atStart => exact ⟨0, none, 0, L0, by omega, rfl, rfl, hL0'.out, B⟩
  case round =>
    clear B
    obtain ⟨i, p, c, Lr, hi, rfl, rfl, hRP, B⟩ := hrel
    have hRP' := Lib.hid hRP
    clear hRP
    by_cases hin : i < C
    · obtain ⟨R1, hR1⟩ : ∃ R : Value → World → Prop, R = fun v w'' => v = .agg (u8s (X i)).toArray ∧ ∃ Lr', RP (i + 1) Lr' ∧ Buf 5 .u8 w w'' ([(b8, u8s (List.replicate 32 0), 24), (b4, u8s id, 22)] ++ Lr') (.slice p (32 * i) c) (flatX X i) := ⟨_, rfl⟩
      obtain ⟨ar, har⟩ : ∃ a, a = #[.int .i64 i] ++ cap := ⟨_, rfl⟩
      have hc2 : Hid (Calls Tryz.prog f ar wr fun e w'' => ∃ v, e = .returned v ∧ R1 v w'') := by
        rw [hR1, har]
        obtain ⟨Lv, h1, h2, h3⟩ := B
        refine (hcl'.out i hin wr (Lv ++ [(b8, u8s (List.replicate 32 0), 24), (b4, u8s id, 22)]) Lr hRP'.out (by rw [List.append_assoc]; exact h2) (fun j hj => ?_)).mono ?_
        · rw [List.map_append, List.mem_append] at hj
          rcases hj with hj | hj
          · exact h3 j hj
          · simp only [List.map_cons, List.map_nil, List.mem_cons, List.not_mem_nil, or_false] at hj
            rcases hj with rfl | rfl <;> assumption
        · rintro e w'' ⟨rfl, Lr', h4, h5⟩
          exact ⟨_, rfl, rfl, Lr', h4, Buf.callL ⟨Lv, h1, h2, h3⟩ h5 ((hkey'.out _ _ h4).trans (hkey'.out _ _ hRP'.out).symm)⟩
      have hR1' := Lib.hid hR1
      have har' := Lib.hid har
      clear hR1 har
      have hxl := Lib.hid (hXl'.out i)
      have hst := Lib.hid (flatX_succ X i)
      have hfl := Lib.hid (length_flatX hXl'.out i)
      obtain ⟨Xi, hXi⟩ : ∃ s, s = X i := ⟨_, rfl⟩
      rw [← hXi] at hR1' hxl hst
      clear hXi
      have hsum : Hid ((flatX X i).length + Xi.length = 32 * (i + 1)) := by show _ = _; rw [hfl.out, hxl.out]; omega
      have tok4 : True := trivial
      go_wp2_with (first
        | (clear tok4; refine st_callC (P := Tryz.prog) (R := R1) (f := f) (cap := cap) (args := ar) (x := .tmp 17) (xs := #[.tmp 18]) (ats := #[3]) rfl rfl rfl (by rw [har'.out]; simp [Act.eval]) hf'.out hname'.out hbd'.out hc2.out ?_; intro v4 w4 hr; rw [hR1'.out] at hr; obtain ⟨e4, Lq, hq4, B2⟩ := hr; subst e4; have hRQ := Lib.hid hq4; clear hq4; clear B; have B := B2; clear B2; have tok5 : True := trivial)
        | (clear tok5; refine st_newG rfl (rn_alloc (Own.refl w4) rfl info_hash) ?_; intro b11 w5 hb11 M; have g11 := Nat.le_trans B.own0.size hb11; have B2 := B.callNew M hb11; clear B M; have B := B2; clear B2; have tok6 : True := trivial)
        | (clear tok6; refine st_bufPut (vs := u8s Xi) rfl B rfl rfl rfl (size_hashL hxl.out) (by rw [length_ints, length_ints, hxl.out]; rfl) (oneCell_ints _ _) ?_; clear B; intro w6 B)
        | (refine st_val rfl (rn_sliceAll rfl rfl size_u8 rfl (by omega)) ?_)
        | (refine st_app (ys := Xi) rfl B elem_u8 rfl rfl rfl rfl (Own.litM (T := 24) B.own0 (.head _) hxl.out.symm) (by rw [hsum.out]; omega) (by rw [hsum.out]; omega) ?_; clear B; intro p7 c7 w7 B; rw [← hst.out] at B; rw [hsum.out] at B ⊢; have B2 := B.pop g11; clear B; have B := B2; clear B2))
      exact ⟨⟨i + 1, _, _, _, by omega, by go_num, rfl, hRQ.out, B⟩, by simp [intOf]; omega⟩
    · obtain rfl : i = C := by omega
      have hfl := Lib.hid (length_flatX hXl'.out i)
      have hfb := Lib.hid (isBytes_flatX hXb'.out i)
      obtain ⟨R, hR⟩ : ∃ R, R = endsOf id q (flatX X i) := ⟨_, rfl⟩
      have hR' := Lib.hid hR
      have hRl : Hid (R.length = 32) := by show _ = _; rw [hR]; rfl
      clear hR
      have tok4 : True := trivial
      go_wp2_with (first
        | (clear tok4; refine st_val rfl (rn_loadAll (cs := u8s id) B.own0 rfl rfl (.tail _ (.head _)) rfl rfl hsz.out) ?_; have tok5 : True := trivial)
        | (clear tok5; refine st_newG rfl (rn_buildSlice (e := 27) (cs := [.slice p (32 * i) c]) (Own.refl wr) rfl (fun w' => by kernel_rfl)) ?_; intro b27 w5 hb27 M; have g27 := Nat.le_trans B.own0.size hb27; have B2 := B.callNew M hb27; clear B; have B := B2; clear B2;
            have L5 : LitL [flatX X i] w5 (.slice (some ⟨b27, 0, none⟩) 1 1) := ⟨[(.slice p (32 * i) c, flatX X i)], (OldL.ofLit M (.head _) rfl rfl (by
              intro y hy
              simp only [List.mem_cons, List.not_mem_nil, or_false] at hy
              subst hy
              exact ⟨B.bin, hfb.out⟩)), rfl⟩; clear M; have tok6 : True := trivial)
        | (clear tok6; go_at_call 74; refine (hhash.out _ _ _ L5 (by rw [hfl.out]; omega)).mono ?_; rintro e w6 ⟨rfl, h3⟩; rw [← hR'.out]; have H := B.own0.call0 h3; clear B L5 h3; have tok7 : True := trivial)
        | (clear tok7; refine st_skip rfl (rn_storeAll (L' := (b27, [.slice p (32 * i) c], 27) :: (b8, u8s R, 24) :: (b4, u8s id, 22) :: Lr) (vs := u8s R) H rfl rfl rfl (size_hashL hRl.out) (.tail .head) (by rw [length_ints, length_ints, hRl.out]; rfl) (oneCell_ints _ _)) ?_; clear H; intro w9 H))
      refine fin_cell (cs := u8s R) rfl H rfl (.tail _ (.head _)) rfl rfl (size_hashL hRl.out) rfl ⟨by rw [hR'.out], Lr, hRP'.out, ?_⟩
      exact Own.drop (L1 := [_, _, _]) H (by simp; omega)

end Go.Proofs.YtfihlmnbonnekaaGreat

/-! ots: Public. -/
namespace Go.Proofs.YtfihlmnbonnekaaGreat
open Go.RowKit

theorem may_k {q k : Nat} (hq : q < 32) (hk : k = 1 ∨ k = 2 ∨ k = 4 ∨ k = 8) : mayB q k = true := by
  have h1 : decide ((0 : Int) ≤ q) = true := decide_eq_true (by omega)
  have h2 : decide ((q : Int) < 32) = true := decide_eq_true (by omega)
  unfold mayB
  rw [h1, h2]
  rcases hk with rfl | rfl | rfl | rfl <;> rfl

theorem info_int : ((Tryz.prog.info? 3).bind (·.zero)).map (fun z => z.cells.toList) = some [.int .i64 0] := by kernel_rfl

end Go.Proofs.YtfihlmnbonnekaaGreat

/-! ots: Sign. -/
namespace Go.Proofs.YtfihlmnbonnekaaGreat
open Go.RowKit

theorem Buf.perm {e : TypeId} {k : IntKind} {w0 w : World} {L L' : List Ent} {v : Value} {xs : List Int} (E : Buf e k w0 w L v xs) (p : L.Perm L') : Buf e k w0 w L' v xs := by
  obtain ⟨Lv, h1, h2, h3⟩ := E
  exact ⟨Lv, h1, h2.perm (p.append_left Lv), h3⟩

theorem code_k (w : World) (k : Nat) (hk : k = 1 ∨ k = 2 ∨ k = 4 ∨ k = 8) : Calls Tryz.prog 38 #[.int .i64 k] w fun e w' => e = .returned (.int .i64 (cdN k)) ∧ Own w w' [] := by
  rcases hk with rfl | rfl | rfl | rfl <;> exact code_any w _
theorem cdN_range (k : Nat) : 1 ≤ cdN k ∧ cdN k ≤ 4 := by unfold cdN; repeat (first | omega | split)

end Go.Proofs.YtfihlmnbonnekaaGreat
