/- ots: key. -/
import Derived.Test.YtfihlmnbonnekaaPrg2
namespace Go.Proofs.Ytfihlmnbonnekaa
open Go.RowKit

section
variable {P : Program} {ops : Array Oper} {rest : List Oper} {o : Oper} {a : Act} {w : World} {Q : Exit → Act → World → Prop}
/-- a call of a function that stands in a variable -/
theorem st_callC (hg : o.guard = none) {x : Operand} {f : Nat} {fn : Func} {cap : Array Value} {xs : Array Operand} {ats : Array TypeId} {args : Array Value} (hop : o.op = .call { callee := .value x, args := xs, argTypes := ats }) (hx : a.eval x = .func (.func f) #[] cap) (hargs : xs.map a.eval ++ cap = args)
    (hf : P.funcs[f]? = some fn) (hname : (fn.name == "runtime.NumGoroutine") = false) (hb : fn.body.isNone = false) {R : Value → World → Prop} (hc : Calls P f args w fun e w' => ∃ v, e = .returned v ∧ R v w')
    (h : ∀ v w', R v w' → wpList P ops Q rest (a.put o.dst v) w') : wpList P ops Q (o :: rest) a w := by
  have hy : YieldsTo P o a w R := by
    unfold YieldsTo
    rw [run_call_clo hop hx hargs hf hname hb]
    exact hc
  exact wpList_plain hg fun K hK => YieldsTo.wp hy fun v w' hr => hK _ _ (h v w' hr)
end

theorem Buf.callL {e : TypeId} {k : IntKind} {w0 w w' : World} {L Lr Lr' : List Ent} {v : Value} {xs : List Int} (E : Buf e k w0 w (L ++ Lr) v xs) (hu : Own w w' Lr') (hk : Lr'.map (·.1) = Lr.map (·.1)) : Buf e k w0 w' (L ++ Lr') v xs := by
  obtain ⟨Lv, h1, h2, h3⟩ := E
  refine ⟨Lv, h1, ?_, h3⟩
  have p1 : (Lv ++ (L ++ Lr)).Perm (Lr ++ (Lv ++ L)) := by rw [← List.append_assoc]; exact List.perm_append_comm
  have p2 : (Lr' ++ (Lv ++ L)).Perm (Lv ++ (L ++ Lr')) := by rw [← List.append_assoc Lv]; exact List.perm_append_comm
  exact (Own.call (h2.perm p1) ⟨hu, fun j hj => Or.inl (by rw [← hk]; exact hj)⟩ (fun j hj => Or.inl (by rw [hk]; exact hj))).perm p2

theorem chains_k (w : World) (k : Nat) (hk : k = 1 ∨ k = 2 ∨ k = 4 ∨ k = 8) : Calls Try.prog 56 #[.int .i64 k] w fun e w' => e = .returned (.int .i64 (chN k)) ∧ Own w w' [] := by
  rcases hk with rfl | rfl | rfl | rfl <;> exact chains_any w _

set_option maxRecDepth 100000 in
set_option maxHeartbeats 4000000 in
theorem key_any (w : World) (id : List Int) (h16 : id.length = 16) (q k : Nat) (hq : q < 32) (hk : k = 1 ∨ k = 2 ∨ k = 4 ∨ k = 8) (f : Nat) (fn : Func) (cap : Array Value) (hf : Try.prog.funcs[f]? = some fn) (hname : (fn.name == "runtime.NumGoroutine") = false) (hbd : fn.body.isNone = false)
    (RP : Nat → List Ent → Prop) (K : List Nat) (hkey : ∀ i Lr, RP i Lr → Lr.map (·.1) = K) (X : Nat → List Int) (hXl : ∀ i, (X i).length = 32) (hXb : ∀ i, IsBytes (X i)) (H0 : ∃ Lr, RP 0 Lr ∧ Own w w Lr)
    (hcl : ∀ i, i < chN k → ∀ w' L Lr, RP i Lr → Own w w' (L ++ Lr) → (∀ j ∈ L.map (·.1), w.heap.size ≤ j) → Calls Try.prog f (#[.int .i64 i] ++ cap) w' fun e w'' => e = .returned (.agg (u8s (X i)).toArray) ∧ ∃ Lr', RP (i + 1) Lr' ∧ Own w' w'' Lr') :
    Calls Try.prog 84 #[.agg (u8s id).toArray, .int .i64 q, .int .i64 k, .func (.func f) #[] cap] w fun e w' => e = .returned (.agg (u8s (endsOf id q (flatX X (chN k)))).toArray) ∧ ∃ Lr, RP (chN k) Lr ∧ Own w w' Lr := by
  obtain ⟨L0, hL0, H0⟩ := H0
  have H : Own w w ([] ++ L0) := H0
  obtain ⟨hC0, hC1⟩ := chN_le k
  have hch := Lib.hid (fun w' => chains_k w' k hk)
  obtain ⟨C, hC⟩ : ∃ C, C = chN k := ⟨_, rfl⟩
  rw [← hC] at hch hC0 hC1 hcl ⊢
  have hXl' := Lib.hid hXl
  have hXb' := Lib.hid hXb
  have hkey' := Lib.hid hkey
  have hcl' := Lib.hid hcl
  have hf' := Lib.hid hf
  have hname' := Lib.hid hname
  have hbd' := Lib.hid hbd
  have hsz := Lib.hid (size_idL h16)
  have hhash : Hid (∀ w' v ls, LitL [ls] w' v → ls.length ≤ 100000 → Calls Try.prog 83 #[.agg (u8s id).toArray, .int .i64 q, .int .i64 32896, v] w' fun e w'' => e = .returned (.agg (u8s (endsOf id q ls)).toArray) ∧ Own w' w'' []) := fun w' v ls h hl => by
    have h2 := hash_any w' id h16 q 32896 hq (by omega) v [ls] h (by simp; omega) (by simp)
    rw [show sha (hashIn id q 32896 [ls]) = endsOf id q ls by unfold hashIn endsOf; rw [show numB ((32896 : Nat) : Int) 2 = [128, 128] by kernel_rfl, List.append_assoc]; simp] at h2
    exact h2
  have hL0' := Lib.hid hL0
  clear H0 hL0 hXl hXb hkey hcl hf hname hbd hC h16 hk
  go_enter Try.func84, Try.ntmps84
  have tok1 : True := trivial
  go_wp2_with (first
    | (clear tok1; refine st_new (g := fun n => [(n, u8s id, 26)] ++ L0) rfl (rn_box (cs := u8s id) H rfl rfl rfl) ?_; clear H; intro b4 w1 hb4 H; have tok2 : True := trivial)
    | (clear tok2; refine st_new (g := fun n => [(n, u8s (List.replicate 32 0), 28), (b4, u8s id, 26)] ++ L0) rfl (rn_alloc H rfl info_hash) ?_; clear H; intro b8 w2 hb8 H; have tok3 : True := trivial)
    | (clear tok3; go_at_call 56; refine (hch.out _).mono ?_; rintro e w3 ⟨rfl, h3⟩; have H2 := H.call0 h3; clear H h3; have H := H2; clear H2))
  have B : Buf 5 .u8 w w3 ([(b8, u8s (List.replicate 32 0), 28), (b4, u8s id, 26)] ++ L0) (.slice none 0 0) [] := Buf.nil H
  clear H
  go_loopw [9, 10, 14] (fun v9 _ v14 wr => ∃ (i : Nat) (p : Option Addr) (c : Nat) (Lr : List Ent), i ≤ C ∧ v14 = .int .i64 ((i : Nat) : Int) ∧ v9 = .slice p (32 * i) c ∧ RP i Lr ∧ Buf 5 .u8 w wr ([(b8, u8s (List.replicate 32 0), 28), (b4, u8s id, 26)] ++ Lr) v9 (flatX X i)) (fun _ _ v14 _ => ((C : Nat) - intOf v14).toNat)
  case atStart => exact ⟨0, none, 0, L0, by omega, rfl, rfl, hL0'.out, B⟩
  case round =>
    clear B
    obtain ⟨i, p, c, Lr, hi, rfl, rfl, hRP, B⟩ := hrel
    have hRP' := Lib.hid hRP
    clear hRP
    by_cases hin : i < C
    · obtain ⟨R1, hR1⟩ : ∃ R : Value → World → Prop, R = fun v w'' => v = .agg (u8s (X i)).toArray ∧ ∃ Lr', RP (i + 1) Lr' ∧ Buf 5 .u8 w w'' ([(b8, u8s (List.replicate 32 0), 28), (b4, u8s id, 26)] ++ Lr') (.slice p (32 * i) c) (flatX X i) := ⟨_, rfl⟩
      obtain ⟨ar, har⟩ : ∃ a, a = #[.int .i64 i] ++ cap := ⟨_, rfl⟩
      have hc2 : Hid (Calls Try.prog f ar wr fun e w'' => ∃ v, e = .returned v ∧ R1 v w'') := by
        rw [hR1, har]
        obtain ⟨Lv, h1, h2, h3⟩ := B
        refine (hcl'.out i hin wr (Lv ++ [(b8, u8s (List.replicate 32 0), 28), (b4, u8s id, 26)]) Lr hRP'.out (by rw [List.append_assoc]; exact h2) (fun j hj => ?_)).mono ?_
        · rw [List.map_append, List.mem_append] at hj
          rcases hj with hj | hj
          · exact h3 j hj
          · simp only [List.map_cons, List.map_nil, List.mem_cons, List.not_mem_nil, or_false] at hj
            rcases hj with rfl | rfl <;> assumption
        · rintro e w'' ⟨rfl, Lr', h4, h5⟩
          exact ⟨_, rfl, rfl, Lr', h4, Buf.callL ⟨Lv, h1, h2, h3⟩ h5 ((hkey'.out _ _ h4).trans (hkey'.out _ _ hRP'.out).symm)⟩
      have hR1' := Lib.hid hR1
      have har' := Lib.hid har
      clear hR1 har
      have hxl := Lib.hid (hXl'.out i)
      have hst := Lib.hid (flatX_succ X i)
      have hfl := Lib.hid (length_flatX hXl'.out i)
      obtain ⟨Xi, hXi⟩ : ∃ s, s = X i := ⟨_, rfl⟩
      rw [← hXi] at hR1' hxl hst
      clear hXi
      have hsum : Hid ((flatX X i).length + Xi.length = 32 * (i + 1)) := by show _ = _; rw [hfl.out, hxl.out]; omega
      have tok4 : True := trivial
      go_wp2_with (first
        | (clear tok4; refine st_callC (P := Try.prog) (R := R1) (f := f) (cap := cap) (args := ar) (x := .tmp 17) (xs := #[.tmp 18]) (ats := #[3]) rfl rfl rfl (by rw [har'.out]; simp [Act.eval]) hf'.out hname'.out hbd'.out hc2.out ?_; intro v4 w4 hr; rw [hR1'.out] at hr; obtain ⟨e4, Lq, hq4, B2⟩ := hr; subst e4; have hRQ := Lib.hid hq4; clear hq4; clear B; have B := B2; clear B2; have tok5 : True := trivial)
        | (clear tok5; refine st_newG rfl (rn_alloc (Own.refl w4) rfl info_hash) ?_; intro b11 w5 hb11 M; have g11 := Nat.le_trans B.own0.size hb11; have B2 := B.callNew M hb11; clear B M; have B := B2; clear B2; have tok6 : True := trivial)
        | (clear tok6; refine st_bufPut (vs := u8s Xi) rfl B rfl rfl rfl (size_hashL hxl.out) (by rw [length_ints, length_ints, hxl.out]; rfl) (oneCell_ints _ _) ?_; clear B; intro w6 B)
        | (refine st_val rfl (rn_sliceAll rfl rfl size_u8 rfl (by omega)) ?_)
        | (refine st_app (ys := Xi) rfl B elem_u8 rfl rfl rfl rfl (Own.litM (T := 28) B.own0 (.head _) hxl.out.symm) (by rw [hsum.out]; omega) (by rw [hsum.out]; omega) ?_; clear B; intro p7 c7 w7 B; rw [← hst.out] at B; rw [hsum.out] at B ⊢; have B2 := B.pop g11; clear B; have B := B2; clear B2))
      exact ⟨⟨i + 1, _, _, _, by omega, by go_num, rfl, hRQ.out, B⟩, by simp [intOf]; omega⟩
    · obtain rfl : i = C := by omega
      have hfl := Lib.hid (length_flatX hXl'.out i)
      have hfb := Lib.hid (isBytes_flatX hXb'.out i)
      obtain ⟨R, hR⟩ : ∃ R, R = endsOf id q (flatX X i) := ⟨_, rfl⟩
      have hR' := Lib.hid hR
      have hRl : Hid (R.length = 32) := by show _ = _; rw [hR]; rfl
      clear hR
      have tok4 : True := trivial
      go_wp2_with (first
        | (clear tok4; refine st_val rfl (rn_loadAll (cs := u8s id) B.own0 rfl rfl (.tail _ (.head _)) rfl rfl hsz.out) ?_; have tok5 : True := trivial)
        | (clear tok5; refine st_newG rfl (rn_buildSlice (e := 33) (cs := [.slice p (32 * i) c]) (Own.refl wr) rfl (fun w' => by kernel_rfl)) ?_; intro b27 w5 hb27 M; have g27 := Nat.le_trans B.own0.size hb27; have B2 := B.callNew M hb27; clear B; have B := B2; clear B2;
            have L5 : LitL [flatX X i] w5 (.slice (some ⟨b27, 0, none⟩) 1 1) := ⟨[(.slice p (32 * i) c, flatX X i)], (OldL.ofLit M (.head _) rfl rfl (by
              intro y hy
              simp only [List.mem_cons, List.not_mem_nil, or_false] at hy
              subst hy
              exact ⟨B.bin, hfb.out⟩)), rfl⟩; clear M; have tok6 : True := trivial)
        | (clear tok6; go_at_call 83; refine (hhash.out _ _ _ L5 (by rw [hfl.out]; omega)).mono ?_; rintro e w6 ⟨rfl, h3⟩; rw [← hR'.out]; have H := B.own0.call0 h3; clear B L5 h3; have tok7 : True := trivial)
        | (clear tok7; refine st_skip rfl (rn_storeAll (L' := (b27, [.slice p (32 * i) c], 33) :: (b8, u8s R, 28) :: (b4, u8s id, 26) :: Lr) (vs := u8s R) H rfl rfl rfl (size_hashL hRl.out) (.tail .head) (by rw [length_ints, length_ints, hRl.out]; rfl) (oneCell_ints _ _)) ?_; clear H; intro w9 H))
      refine fin_cell (cs := u8s R) rfl H rfl (.tail _ (.head _)) rfl rfl (size_hashL hRl.out) rfl ⟨by rw [hR'.out], Lr, hRP'.out, ?_⟩
      exact Own.drop (L1 := [_, _, _]) H (by simp; omega)

end Go.Proofs.Ytfihlmnbonnekaa
