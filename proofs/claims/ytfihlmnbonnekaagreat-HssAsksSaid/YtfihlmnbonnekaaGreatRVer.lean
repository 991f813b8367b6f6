/- the document's Verify. -/
import Derived.Test.YtfihlmnbonnekaaGreatRWid
import Derived.Test.YtfihlmnbonnekaaGreatRefV
namespace Go.Proofs.YtfihlmnbonnekaaGreat
open Go.RowKit
set_option maxHeartbeats 32000000
theorem vOk_iff {sig : List Int} {k : Nat} (hsb : IsBytes sig) (h4 : 4 ≤ sig.length) : vOk k sig = true ↔ (beN (sig.drop (40 + 32 * chN k)) 4 = 5 ∧ sig[0]?.getD 0 = 0 ∧ sig[1]?.getD 0 = 0 ∧ sig[2]?.getD 0 = 0 ∧ sig[3]?.getD 0 < 32) := by
 have b0 := hsb 0 (by omega)
 have b1 := hsb 1 (by omega)
 have b2 := hsb 2 (by omega)
 have b3 := hsb 3 (by omega)
 have e : beN sig 4 = ((sig[0]?.getD 0 * 256 + sig[1]?.getD 0) * 256 + sig[2]?.getD 0) * 256 + sig[3]?.getD 0 := by simp [beN]
 unfold vOk
 rw [Bool.and_eq_true, decide_eq_true_eq, decide_eq_true_eq, e]
 omega
theorem rver_bad (w : World) (pv mv sv : Value) (pub : List Int) (hp : Old w pv pub) (hpb : IsBytes pub) (h0 : widthL pub = 0) :
 Calls Tryz.prog 20 #[pv, mv, sv] w fun e w' => e = .returned (.int .i64 2) ∧ Own w w' [] := by
 have hf := Hh (rform_any w pv pub hp hpb)
 rw [h0] at hf
 have hnot : ∀ (x : Bool) (w : World), (Op.unary .not (.bool x)).run Tryz.prog w = .ok (.bool (!x)) w := fun _ _ => rfl
 clear h0 hp hpb
 go_enter Tryz.func20, Tryz.ntmps20
 go_wp2_with (go_at_call 21; refine hf.out.mono ?_; rintro e w1 ⟨rfl, H⟩)
 go_ret
 exact ⟨rfl, H⟩
section
variable {P : Program} {o : Oper} {a : Act} {w : World}
theorem rn_idxSlN {t : TypeId} {x ix : Operand} (ho : o.op = .indexAddr t x ix) {e : TypeId} (hu : P.underlying t = some (.slice e)) (hs : (P.info? e).map (·.size) = some 1) {b i n c : Nat} (hx : a.eval x = .slice (some ⟨b, i, none⟩) n c) {k : IntKind} {z : Int} (hj : a.eval ix = .int k z) {j : Nat} (hz : z = (j : Int)) (h1 : j < n) {q : Nat} (hq : i + j = q) :
 (execOp a.eval o).run P w = .ok (.value (.pointer (some ⟨b, q, none⟩))) w := by
 have h := rn_idxSl (w := w) ho hu hs hx hj (by omega) (by omega)
 rw [h, ← hq, hz, Int.toNat_natCast, Nat.mul_one]
end
set_option maxRecDepth 100000 in
theorem rver_len (w : World) (pv mv sv : Value) (pub sig : List Int) (hp : Old w pv pub) (hpb : IsBytes pub) (hs : Old w sv sig) (k : Nat) (hk : k = 1 ∨ k = 2 ∨ k = 4 ∨ k = 8) (hwk : widthL pub = k) (hne : sig.length ≠ sizeOfL k) :
 Calls Tryz.prog 20 #[pv, mv, sv] w fun e w' => e = .returned (.int .i64 3) ∧ Own w w' [] := by
 have H := Own.refl w
 have hwc := widthL_0 (bs := pub)
 have h56 : pub.length = 56 ∧ beN pub 4 = 5 := by
  by_cases h : pub.length = 56 ∧ beN pub 4 = 5
  · exact h
  · have := hwc h; omega
 obtain ⟨hpl, hp5⟩ := h56
 have hfm : Hid (Calls Tryz.prog 21 #[pv] w fun e w' => e = .returned (.bool true) ∧ Own w w' []) := by
  have h := rform_any w pv pub hp hpb
  rwa [decide_eq_true (by omega)] at h
 obtain ⟨bp, op, cp, e1, hpc⟩ := hp.at0 (by omega)
 subst e1
 have hwd : Hid (∀ w', Own w w' [] → Calls Tryz.prog 53 #[.slice (some ⟨bp, op + 4, none⟩) 4 (cp - 4)] w' fun e w'' => e = .returned (.int .i64 k) ∧ Own w' w'' []) := fun w' h => by
  have h1 := rwidth_any w' _ _ ((hp.mv h (by simp)).part (l := 4) (m := 4) (d := cp - 4) rfl (by omega) (by omega) (by omega)) (isBytes_take (isBytes_drop hpb _) _) (by rw [List.length_take, List.length_drop]; omega)
  rwa [show beN ((pub.drop 4).take 4) 4 = beN (pub.drop 4) 4 by simp [beN], ← widthL_D hpl hp5, hwk] at h1
 have hch := Hh (fun w' => refChains_k w' k hk)
 have hsz0 := Hh (fun w' => rsize_k w' k hk)
 obtain ⟨hC0, hC1⟩ := chN_le k
 have hnot : ∀ (x : Bool) (w : World), (Op.unary .not (.bool x)).run Tryz.prog w = .ok (.bool (!x)) w := fun _ _ => rfl
 obtain ⟨ps, cs, e2⟩ := hs.shape
 subst e2
 obtain ⟨C, hC⟩ : ∃ C, C = chN k := ⟨_, rfl⟩
 obtain ⟨S, hS⟩ : ∃ C, C = sizeOfL k := ⟨_, rfl⟩
 rw [← hC] at hch
 rw [← hS] at hsz0 hne
 obtain ⟨n, hn⟩ : ∃ n, n = sig.length := ⟨_, rfl⟩
 rw [← hn] at hne ⊢
 obtain ⟨pn, hpn⟩ : ∃ n, n = pub.length := ⟨_, rfl⟩
 rw [← hpn] at hfm hpc hpl ⊢
 subst hpl
 have hne2 : ((n : Int) == (S : Int)) = false := by rw [beq_eq_false_iff_ne]; omega
 have hne3 : ((n : Int) != (S : Int)) = true := by unfold bne; rw [hne2]; rfl
 clear hp hpb hs hk hwk hC hS hn hpn hne hC0 hC1 hp5 hwc
 go_enter Tryz.func20, Tryz.ntmps20
 have z1 := tt
 go_wp2_with (first
  | (clear z1; go_at_call 21; refine hfm.out.mono ?_; rintro e w1 ⟨rfl, h3⟩; clear H; have H := h3; clear h3; have z2 := tt)
  | (clear z2; go_at_call 53; refine (hwd.out _ H).mono ?_; rintro e w2 ⟨rfl, h3⟩; replace H := H.call0 h3; clear h3; have z3 := tt)
  | (clear z3; go_at_call 54; refine (hch.out _).mono ?_; rintro e w3 ⟨rfl, h3⟩; replace H := H.call0 h3; clear h3; have z4 := tt))
 have H3 := Hh H
 clear H
 refine region_grow 40 (by kernel_rfl) (by kernel_rfl) (by kernel_rfl) [.val (.slice ps n cs), .val (.int .i64 n), .val (.int .i64 k), .val (.int .i64 (S : Nat)), .val (.bool true), .val (.bool true), .val undef, .val undef, .val undef, .val undef, .val undef, .val undef, .val undef, .val undef, .val undef, .val (.bool true), .val (.bool true), .val undef, .val undef, .val undef, .val undef, .val (.bool true), .val (.bool true), .val undef, .val undef, .val undef, .val undef, .val (.bool true), .val (.bool true), .val undef, .val undef, .val undef, .val undef, .val (.bool true), .val (.bool true), .val undef, .val undef, .val undef, .val undef, .val (.bool true)] rfl ?_
 have z3 := tt
 try go_frame
 repeat (first
  | (clear z3; refine sp_callN (v := .int .i64 (S : Nat)) (args := #[.int .i64 k]) rfl rfl (by simp [Act.eval]) Tryz.func55 (by kernel_rfl) (by kernel_rfl) (fun w' _ _ => hsz0.out w') ?_; try go_frame; have z4 := tt)
  | (refine sp_skip rfl ?_; try go_frame)
  | (refine sp_val (fun w' hw' hF => ?_) ⟨_, rfl, nB rfl⟩ ?_
     · go_big_quiet_step (fail)
       first
       | exact rfl
       | (simp only [hne3]; exact rfl)
     try go_frame))
 refine sp_nil ?_
 intro w4 hw' hF
 have HE := Hh (H3.out.trans hw')
 clear hw' hF
 simp only [List.drop_succ_cons, List.drop_zero]
 go_wp2_with fail
 go_ret
 exact ⟨rfl, HE.out⟩
set_option maxRecDepth 100000 in
theorem rver_hd (w : World) (pv mv sv : Value) (pub sig : List Int) (hp : Old w pv pub) (hpb : IsBytes pub) (hs : Old w sv sig) (k : Nat) (hk : k = 1 ∨ k = 2 ∨ k = 4 ∨ k = 8) (hwk : widthL pub = k) (hsb : IsBytes sig) (hne : sig.length = sizeOfL k) (hno : vOk k sig = false) :
 Calls Tryz.prog 20 #[pv, mv, sv] w fun e w' => e = .returned (.int .i64 3) ∧ Own w w' [] := by
 have H := Own.refl w
 have hwc := widthL_0 (bs := pub)
 have h56 : pub.length = 56 ∧ beN pub 4 = 5 := by
  by_cases h : pub.length = 56 ∧ beN pub 4 = 5
  · exact h
  · have := hwc h; omega
 obtain ⟨hpl, hp5⟩ := h56
 have hfm : Hid (Calls Tryz.prog 21 #[pv] w fun e w' => e = .returned (.bool true) ∧ Own w w' []) := by
  have h := rform_any w pv pub hp hpb
  rwa [decide_eq_true (by omega)] at h
 obtain ⟨bp, op, cp, e1, hpc⟩ := hp.at0 (by omega)
 subst e1
 have hwd : Hid (∀ w', Own w w' [] → Calls Tryz.prog 53 #[.slice (some ⟨bp, op + 4, none⟩) 4 (cp - 4)] w' fun e w'' => e = .returned (.int .i64 k) ∧ Own w' w'' []) := fun w' h => by
  have h1 := rwidth_any w' _ _ ((hp.mv h (by simp)).part (l := 4) (m := 4) (d := cp - 4) rfl (by omega) (by omega) (by omega)) (isBytes_take (isBytes_drop hpb _) _) (by rw [List.length_take, List.length_drop]; omega)
  rwa [show beN ((pub.drop 4).take 4) 4 = beN (pub.drop 4) 4 by simp [beN], ← widthL_D hpl hp5, hwk] at h1
 have hch := Hh (fun w' => refChains_k w' k hk)
 have hsz0 := Hh (fun w' => rsize_k w' k hk)
 obtain ⟨hC0, hC1⟩ := chN_le k
 have hnot : ∀ (x : Bool) (w : World), (Op.unary .not (.bool x)).run Tryz.prog w = .ok (.bool (!x)) w := fun _ _ => rfl
 have hsz9 : sizeOfL k = 204 + 32 * chN k := rfl
 obtain ⟨g, o, c, e2, hcc⟩ := hs.at0 (by omega)
 subst e2
 have hn5 : Hid (∀ w', Calls Tryz.prog 42 #[.int .u64 5, .int .i64 4] w' fun e w'' => ∃ r, e = .returned r ∧ BIn (numB 5 4) w'' r ∧ Own w' w'' []) := fun w' => refNum_any w' 5 4 (by omega) (by omega)
 have hsmm : Hid (∀ w' u, Own w w' [] → BIn (numB 5 4) w' u → Calls Tryz.prog 11 #[.slice (some ⟨g, o + (40 + 32 * chN k), none⟩) 4 (c - (40 + 32 * chN k)), u] w' fun e w'' => e = .returned (.bool (decide (beN (sig.drop (40 + 32 * chN k)) 4 = 5))) ∧ Own w' w'' []) := fun w' u h1 h2 => by
  have h := same_any w' _ u _ _ ((hs.mv h1 (by simp)).part (l := 40 + 32 * chN k) (m := 4) (d := c - (40 + 32 * chN k)) rfl (by omega) (by omega) (by omega)).1 h2.2.1 (isBytes_take (isBytes_drop hsb _) _) (isBytes_numB _ _)
  rw [show decide ((sig.drop (40 + 32 * chN k)).take 4 = numB 5 4) = decide (beN (sig.drop (40 + 32 * chN k)) 4 = 5) by
   rw [Bool.eq_iff_iff, decide_eq_true_eq, decide_eq_true_eq]; exact (beN_iff (c := 5) (isBytes_drop hsb _) (by rw [List.length_drop]; omega) (by omega)).symm] at h
  exact h
 have hby : ∀ j, j < sig.length → ∀ w', Own w w' [] → w'.cell? ⟨g, o + j, none⟩ = some (.int .u8 (sig[j]?.getD 0)) := fun j hj w' h => bytes_cellV (hs.mv h (by simp)).1 j _ (ints_get hj)
 have c0 := Hh (hby 0 (by omega))
 have c1 := Hh (hby 1 (by omega))
 have c2 := Hh (hby 2 (by omega))
 have c3 := Hh (hby 3 (by omega))
 have b3 := hsb 3 (by omega)
 have hnv : ¬ (beN (sig.drop (40 + 32 * chN k)) 4 = 5 ∧ sig[0]?.getD 0 = 0 ∧ sig[1]?.getD 0 = 0 ∧ sig[2]?.getD 0 = 0 ∧ sig[3]?.getD 0 < 32) := fun h => by
  rw [(vOk_iff hsb (by omega)).2 h] at hno; cases hno
 obtain ⟨D, hD⟩ : ∃ d, d = beN (sig.drop (40 + 32 * chN k)) 4 := ⟨_, rfl⟩
 rw [← hD] at hsmm
 obtain ⟨N5, hN5⟩ : ∃ n, n = numB 5 4 := ⟨_, rfl⟩
 rw [← hN5] at hn5 hsmm
 obtain ⟨s0, hs0⟩ : ∃ z, z = sig[0]?.getD 0 := ⟨_, rfl⟩
 obtain ⟨s1, hs1⟩ : ∃ z, z = sig[1]?.getD 0 := ⟨_, rfl⟩
 obtain ⟨s2, hs2⟩ : ∃ z, z = sig[2]?.getD 0 := ⟨_, rfl⟩
 obtain ⟨s3, hs3⟩ : ∃ z, z = sig[3]?.getD 0 := ⟨_, rfl⟩
 rw [← hs0] at c0
 rw [← hs1] at c1
 rw [← hs2] at c2
 rw [← hs3] at c3 b3
 rw [← hD, ← hs0, ← hs1, ← hs2, ← hs3] at hnv
 obtain ⟨C, hC⟩ : ∃ C, C = chN k := ⟨_, rfl⟩
 obtain ⟨S, hS⟩ : ∃ C, C = sizeOfL k := ⟨_, rfl⟩
 rw [← hC] at hch hsmm hC0 hC1 hsz9
 rw [← hS] at hsz0 hne hsz9
 obtain ⟨n, hn⟩ : ∃ n, n = sig.length := ⟨_, rfl⟩
 rw [← hn] at hne hcc ⊢
 obtain ⟨pn, hpn⟩ : ∃ n, n = pub.length := ⟨_, rfl⟩
 rw [← hpn] at hfm hpc hpl ⊢
 subst hpl
 have hne2 : ((n : Int) == (S : Int)) = true := by rw [beq_iff_eq]; omega
 have hne3 : ((n : Int) != (S : Int)) = false := by unfold bne; rw [hne2]; rfl
 have hn9 : 204 + 32 * C ≤ n := by omega
 clear hp hpb hs hsb hk hwk hC hS hn hpn hne hC0 hp5 hwc hno hN5 hD hs0 hs1 hs2 hs3 hby hsz9
 go_enter Tryz.func20, Tryz.ntmps20
 have z1 := tt
 go_wp2_with (first
  | (clear z1; go_at_call 21; refine hfm.out.mono ?_; rintro e w1 ⟨rfl, h3⟩; clear H; have H := h3; clear h3; have z2 := tt)
  | (clear z2; go_at_call 53; refine (hwd.out _ H).mono ?_; rintro e w2 ⟨rfl, h3⟩; replace H := H.call0 h3; clear h3; have z3 := tt)
  | (clear z3; go_at_call 54; refine (hch.out _).mono ?_; rintro e w3 ⟨rfl, h3⟩; replace H := H.call0 h3; clear h3; have z4 := tt))
 have H3 := Hh H
 clear H
 have fz : ∀ z : Int, z = 0 → (z != 0) = false := fun z h => by rw [h]; rfl
 have tz : ∀ z : Int, ¬ z = 0 → (z != 0) = true := fun z h => by rw [bne_iff_ne]; exact h
 have hcs : ¬ D = 5 ∨ (D = 5 ∧ ¬ s0 = 0) ∨ (D = 5 ∧ s0 = 0 ∧ ¬ s1 = 0) ∨ (D = 5 ∧ s0 = 0 ∧ s1 = 0 ∧ ¬ s2 = 0) ∨ (D = 5 ∧ s0 = 0 ∧ s1 = 0 ∧ s2 = 0 ∧ ¬ s3 < 32) := by omega
 clear hnv
 rcases hcs with h1 | ⟨h1, h2⟩ | ⟨h1, h2, h3⟩ | ⟨h1, h2, h3, h4⟩ | ⟨h1, h2, h3, h4, h5⟩
 · have hsm := hsmm
   clear hsmm
   rw [decide_eq_false h1] at hsm
   clear h1 fz tz
   refine region_grow 40 (by kernel_rfl) (by kernel_rfl) (by kernel_rfl) [.val (.slice (some ⟨g, o, none⟩) n c), .val (.int .i64 n), .val (.int .i64 k), .val (.int .i64 (S : Nat)), .val (.bool false), .val (.bool false), .val (.slice (some ⟨g, o, none⟩) n c), .val (.int .i64 (36 + 32 * (C : Int))), .val (.int .i64 (4 + (36 + 32 * (C : Int)))), .val (.int .i64 (36 + 32 * (C : Int))), .val (.int .i64 (8 + (36 + 32 * (C : Int)))), .val (.slice (some ⟨g, o + (40 + 32 * C), none⟩) 4 (c - (40 + 32 * C))), .rel (BIn N5), .val (.bool false), .val (.bool true), .val (.bool true), .val (.bool true), .val undef, .val undef, .val undef, .val undef, .val (.bool true), .val (.bool true), .val undef, .val undef, .val undef, .val undef, .val (.bool true), .val (.bool true), .val undef, .val undef, .val undef, .val undef, .val (.bool true), .val (.bool true), .val undef, .val undef, .val undef, .val undef, .val (.bool true)] rfl ?_
   have z3 := tt
   try go_frame
   repeat (first
    | (clear z3; refine sp_callN (v := .int .i64 (S : Nat)) (args := #[.int .i64 k]) rfl rfl (by simp [Act.eval]) Tryz.func55 (by kernel_rfl) (by kernel_rfl) (fun w' _ _ => hsz0.out w') ?_; try go_frame; have z4 := tt)
    | (clear z4; refine sp_run (v := .slice (some ⟨g, o + (40 + 32 * C), none⟩) 4 (c - (40 + 32 * C))) rfl (fun w' hw' _ => rn_part (l := 40 + 32 * C) (h := 44 + 32 * C) rfl rfl size_u8 rfl (by exact .yes (by omega)) (by exact .yes (by omega)) (by omega) (by omega) hcc (by omega) rfl) ?_; try go_frame; have z5 := tt)
    | (clear z5; refine sp_callR (args := #[.int .u64 5, .int .i64 4]) (BIn.mono _) rfl rfl (by simp [Act.eval]) Tryz.func42 (by kernel_rfl) (by kernel_rfl) (fun w' hw' hF => hn5.out w') ?_; intro v39; try go_frame; have z6 := tt)
    | (clear z6; refine sp_callN (v := .bool false) (args := #[.slice (some ⟨g, o + (40 + 32 * C), none⟩) 4 (c - (40 + 32 * C)), v39]) rfl rfl (by simp [Act.eval]) Tryz.func11 (by kernel_rfl) (by kernel_rfl) (fun w' hw' hF => hsm.out w' v39 (H3.out.trans hw') (hF.2 _ rfl (mE (by kernel_rfl)))) ?_; try go_frame; have z7 := tt)
    | (refine sp_skip rfl ?_; try go_frame)
    | (refine sp_val (fun w' hw' hF => ?_) ⟨_, rfl, nB rfl⟩ ?_
       · go_big_quiet_step (fail)
         exact rfl
       try go_frame))
   refine sp_nil ?_
   intro w4 hw' hF
   have HE := Hh (H3.out.trans hw')
   clear hw' hF
   simp only [List.drop_succ_cons, List.drop_zero]
   go_wp2_with fail
   go_ret
   exact ⟨rfl, HE.out⟩
 · have hsm := hsmm
   clear hsmm
   rw [decide_eq_true h1] at hsm
   have q0 := tz s0 h2
   clear h1 fz tz h2
   refine region_grow 40 (by kernel_rfl) (by kernel_rfl) (by kernel_rfl) [.val (.slice (some ⟨g, o, none⟩) n c), .val (.int .i64 n), .val (.int .i64 k), .val (.int .i64 (S : Nat)), .val (.bool false), .val (.bool false), .val (.slice (some ⟨g, o, none⟩) n c), .val (.int .i64 (36 + 32 * (C : Int))), .val (.int .i64 (4 + (36 + 32 * (C : Int)))), .val (.int .i64 (36 + 32 * (C : Int))), .val (.int .i64 (8 + (36 + 32 * (C : Int)))), .val (.slice (some ⟨g, o + (40 + 32 * C), none⟩) 4 (c - (40 + 32 * C))), .rel (BIn N5), .val (.bool true), .val (.bool false), .val (.bool false), .val (.bool false), .val (.slice (some ⟨g, o, none⟩) n c), .val (.pointer (some ⟨g, o + 0, none⟩)), .val (.int .u8 s0), .val (.bool true), .val (.bool true), .val (.bool true), .val undef, .val undef, .val undef, .val undef, .val (.bool true), .val (.bool true), .val undef, .val undef, .val undef, .val undef, .val (.bool true), .val (.bool true), .val undef, .val undef, .val undef, .val undef, .val (.bool true)] rfl ?_
   have z3 := tt
   try go_frame
   repeat (first
    | (clear z3; refine sp_callN (v := .int .i64 (S : Nat)) (args := #[.int .i64 k]) rfl rfl (by simp [Act.eval]) Tryz.func55 (by kernel_rfl) (by kernel_rfl) (fun w' _ _ => hsz0.out w') ?_; try go_frame; have z4 := tt)
    | (clear z4; refine sp_run (v := .slice (some ⟨g, o + (40 + 32 * C), none⟩) 4 (c - (40 + 32 * C))) rfl (fun w' hw' _ => rn_part (l := 40 + 32 * C) (h := 44 + 32 * C) rfl rfl size_u8 rfl (by exact .yes (by omega)) (by exact .yes (by omega)) (by omega) (by omega) hcc (by omega) rfl) ?_; try go_frame; have z5 := tt)
    | (clear z5; refine sp_callR (args := #[.int .u64 5, .int .i64 4]) (BIn.mono _) rfl rfl (by simp [Act.eval]) Tryz.func42 (by kernel_rfl) (by kernel_rfl) (fun w' hw' hF => hn5.out w') ?_; intro v39; try go_frame; have z6 := tt)
    | (clear z6; refine sp_callN (v := .bool true) (args := #[.slice (some ⟨g, o + (40 + 32 * C), none⟩) 4 (c - (40 + 32 * C)), v39]) rfl rfl (by simp [Act.eval]) Tryz.func11 (by kernel_rfl) (by kernel_rfl) (fun w' hw' hF => hsm.out w' v39 (H3.out.trans hw') (hF.2 _ rfl (mE (by kernel_rfl)))) ?_; try go_frame; have z7 := tt)
    | (clear z7; refine sp_run (v := .pointer (some ⟨g, o + 0, none⟩)) rfl (fun w' _ _ => rn_idxSlN (j := 0) rfl rfl size_u8 rfl rfl rfl (by omega) rfl) ?_; try go_frame; have z8 := tt)
    | (clear z8; refine sp_run (v := .int .u8 s0) rfl (fun w' hw' _ => rn_cell rfl rfl rfl rfl (c0.out w' (H3.out.trans hw'))) ?_; try go_frame; have z9 := tt)
    | (refine sp_skip rfl ?_; try go_frame)
    | (refine sp_val (fun w' hw' hF => ?_) ⟨_, rfl, nB rfl⟩ ?_
       · go_big_quiet_step (fail)
         exact rfl
       try go_frame))
   refine sp_nil ?_
   intro w4 hw' hF
   have HE := Hh (H3.out.trans hw')
   clear hw' hF
   simp only [List.drop_succ_cons, List.drop_zero]
   go_wp2_with fail
   go_ret
   exact ⟨rfl, HE.out⟩
 · have hsm := hsmm
   clear hsmm
   rw [decide_eq_true h1] at hsm
   have q0 := fz s0 h2
   have q1 := tz s1 h3
   clear h1 fz tz h2 h3
   refine region_grow 40 (by kernel_rfl) (by kernel_rfl) (by kernel_rfl) [.val (.slice (some ⟨g, o, none⟩) n c), .val (.int .i64 n), .val (.int .i64 k), .val (.int .i64 (S : Nat)), .val (.bool false), .val (.bool false), .val (.slice (some ⟨g, o, none⟩) n c), .val (.int .i64 (36 + 32 * (C : Int))), .val (.int .i64 (4 + (36 + 32 * (C : Int)))), .val (.int .i64 (36 + 32 * (C : Int))), .val (.int .i64 (8 + (36 + 32 * (C : Int)))), .val (.slice (some ⟨g, o + (40 + 32 * C), none⟩) 4 (c - (40 + 32 * C))), .rel (BIn N5), .val (.bool true), .val (.bool false), .val (.bool false), .val (.bool false), .val (.slice (some ⟨g, o, none⟩) n c), .val (.pointer (some ⟨g, o + 0, none⟩)), .val (.int .u8 s0), .val (.bool false), .val (.bool false), .val (.bool false), .val (.slice (some ⟨g, o, none⟩) n c), .val (.pointer (some ⟨g, o + 1, none⟩)), .val (.int .u8 s1), .val (.bool true), .val (.bool true), .val (.bool true), .val undef, .val undef, .val undef, .val undef, .val (.bool true), .val (.bool true), .val undef, .val undef, .val undef, .val undef, .val (.bool true)] rfl ?_
   have z3 := tt
   try go_frame
   repeat (first
    | (clear z3; refine sp_callN (v := .int .i64 (S : Nat)) (args := #[.int .i64 k]) rfl rfl (by simp [Act.eval]) Tryz.func55 (by kernel_rfl) (by kernel_rfl) (fun w' _ _ => hsz0.out w') ?_; try go_frame; have z4 := tt)
    | (clear z4; refine sp_run (v := .slice (some ⟨g, o + (40 + 32 * C), none⟩) 4 (c - (40 + 32 * C))) rfl (fun w' hw' _ => rn_part (l := 40 + 32 * C) (h := 44 + 32 * C) rfl rfl size_u8 rfl (by exact .yes (by omega)) (by exact .yes (by omega)) (by omega) (by omega) hcc (by omega) rfl) ?_; try go_frame; have z5 := tt)
    | (clear z5; refine sp_callR (args := #[.int .u64 5, .int .i64 4]) (BIn.mono _) rfl rfl (by simp [Act.eval]) Tryz.func42 (by kernel_rfl) (by kernel_rfl) (fun w' hw' hF => hn5.out w') ?_; intro v39; try go_frame; have z6 := tt)
    | (clear z6; refine sp_callN (v := .bool true) (args := #[.slice (some ⟨g, o + (40 + 32 * C), none⟩) 4 (c - (40 + 32 * C)), v39]) rfl rfl (by simp [Act.eval]) Tryz.func11 (by kernel_rfl) (by kernel_rfl) (fun w' hw' hF => hsm.out w' v39 (H3.out.trans hw') (hF.2 _ rfl (mE (by kernel_rfl)))) ?_; try go_frame; have z7 := tt)
    | (clear z7; refine sp_run (v := .pointer (some ⟨g, o + 0, none⟩)) rfl (fun w' _ _ => rn_idxSlN (j := 0) rfl rfl size_u8 rfl rfl rfl (by omega) rfl) ?_; try go_frame; have z8 := tt)
    | (clear z8; refine sp_run (v := .int .u8 s0) rfl (fun w' hw' _ => rn_cell rfl rfl rfl rfl (c0.out w' (H3.out.trans hw'))) ?_; try go_frame; have z9 := tt)
    | (clear z9; refine sp_run (v := .pointer (some ⟨g, o + 1, none⟩)) rfl (fun w' _ _ => rn_idxSlN (j := 1) rfl rfl size_u8 rfl rfl rfl (by omega) rfl) ?_; try go_frame; have z10 := tt)
    | (clear z10; refine sp_run (v := .int .u8 s1) rfl (fun w' hw' _ => rn_cell rfl rfl rfl rfl (c1.out w' (H3.out.trans hw'))) ?_; try go_frame; have z11 := tt)
    | (refine sp_skip rfl ?_; try go_frame)
    | (refine sp_val (fun w' hw' hF => ?_) ⟨_, rfl, nB rfl⟩ ?_
       · go_big_quiet_step (fail)
         exact rfl
       try go_frame))
   refine sp_nil ?_
   intro w4 hw' hF
   have HE := Hh (H3.out.trans hw')
   clear hw' hF
   simp only [List.drop_succ_cons, List.drop_zero]
   go_wp2_with fail
   go_ret
   exact ⟨rfl, HE.out⟩
 · have hsm := hsmm
   clear hsmm
   rw [decide_eq_true h1] at hsm
   have q0 := fz s0 h2
   have q1 := fz s1 h3
   have q2 := tz s2 h4
   clear h1 fz tz h2 h3 h4
   refine region_grow 40 (by kernel_rfl) (by kernel_rfl) (by kernel_rfl) [.val (.slice (some ⟨g, o, none⟩) n c), .val (.int .i64 n), .val (.int .i64 k), .val (.int .i64 (S : Nat)), .val (.bool false), .val (.bool false), .val (.slice (some ⟨g, o, none⟩) n c), .val (.int .i64 (36 + 32 * (C : Int))), .val (.int .i64 (4 + (36 + 32 * (C : Int)))), .val (.int .i64 (36 + 32 * (C : Int))), .val (.int .i64 (8 + (36 + 32 * (C : Int)))), .val (.slice (some ⟨g, o + (40 + 32 * C), none⟩) 4 (c - (40 + 32 * C))), .rel (BIn N5), .val (.bool true), .val (.bool false), .val (.bool false), .val (.bool false), .val (.slice (some ⟨g, o, none⟩) n c), .val (.pointer (some ⟨g, o + 0, none⟩)), .val (.int .u8 s0), .val (.bool false), .val (.bool false), .val (.bool false), .val (.slice (some ⟨g, o, none⟩) n c), .val (.pointer (some ⟨g, o + 1, none⟩)), .val (.int .u8 s1), .val (.bool false), .val (.bool false), .val (.bool false), .val (.slice (some ⟨g, o, none⟩) n c), .val (.pointer (some ⟨g, o + 2, none⟩)), .val (.int .u8 s2), .val (.bool true), .val (.bool true), .val (.bool true), .val undef, .val undef, .val undef, .val undef, .val (.bool true)] rfl ?_
   have z3 := tt
   try go_frame
   repeat (first
    | (clear z3; refine sp_callN (v := .int .i64 (S : Nat)) (args := #[.int .i64 k]) rfl rfl (by simp [Act.eval]) Tryz.func55 (by kernel_rfl) (by kernel_rfl) (fun w' _ _ => hsz0.out w') ?_; try go_frame; have z4 := tt)
    | (clear z4; refine sp_run (v := .slice (some ⟨g, o + (40 + 32 * C), none⟩) 4 (c - (40 + 32 * C))) rfl (fun w' hw' _ => rn_part (l := 40 + 32 * C) (h := 44 + 32 * C) rfl rfl size_u8 rfl (by exact .yes (by omega)) (by exact .yes (by omega)) (by omega) (by omega) hcc (by omega) rfl) ?_; try go_frame; have z5 := tt)
    | (clear z5; refine sp_callR (args := #[.int .u64 5, .int .i64 4]) (BIn.mono _) rfl rfl (by simp [Act.eval]) Tryz.func42 (by kernel_rfl) (by kernel_rfl) (fun w' hw' hF => hn5.out w') ?_; intro v39; try go_frame; have z6 := tt)
    | (clear z6; refine sp_callN (v := .bool true) (args := #[.slice (some ⟨g, o + (40 + 32 * C), none⟩) 4 (c - (40 + 32 * C)), v39]) rfl rfl (by simp [Act.eval]) Tryz.func11 (by kernel_rfl) (by kernel_rfl) (fun w' hw' hF => hsm.out w' v39 (H3.out.trans hw') (hF.2 _ rfl (mE (by kernel_rfl)))) ?_; try go_frame; have z7 := tt)
    | (clear z7; refine sp_run (v := .pointer (some ⟨g, o + 0, none⟩)) rfl (fun w' _ _ => rn_idxSlN (j := 0) rfl rfl size_u8 rfl rfl rfl (by omega) rfl) ?_; try go_frame; have z8 := tt)
    | (clear z8; refine sp_run (v := .int .u8 s0) rfl (fun w' hw' _ => rn_cell rfl rfl rfl rfl (c0.out w' (H3.out.trans hw'))) ?_; try go_frame; have z9 := tt)
    | (clear z9; refine sp_run (v := .pointer (some ⟨g, o + 1, none⟩)) rfl (fun w' _ _ => rn_idxSlN (j := 1) rfl rfl size_u8 rfl rfl rfl (by omega) rfl) ?_; try go_frame; have z10 := tt)
    | (clear z10; refine sp_run (v := .int .u8 s1) rfl (fun w' hw' _ => rn_cell rfl rfl rfl rfl (c1.out w' (H3.out.trans hw'))) ?_; try go_frame; have z11 := tt)
    | (clear z11; refine sp_run (v := .pointer (some ⟨g, o + 2, none⟩)) rfl (fun w' _ _ => rn_idxSlN (j := 2) rfl rfl size_u8 rfl rfl rfl (by omega) rfl) ?_; try go_frame; have z12 := tt)
    | (clear z12; refine sp_run (v := .int .u8 s2) rfl (fun w' hw' _ => rn_cell rfl rfl rfl rfl (c2.out w' (H3.out.trans hw'))) ?_; try go_frame; have z13 := tt)
    | (refine sp_skip rfl ?_; try go_frame)
    | (refine sp_val (fun w' hw' hF => ?_) ⟨_, rfl, nB rfl⟩ ?_
       · go_big_quiet_step (fail)
         exact rfl
       try go_frame))
   refine sp_nil ?_
   intro w4 hw' hF
   have HE := Hh (H3.out.trans hw')
   clear hw' hF
   simp only [List.drop_succ_cons, List.drop_zero]
   go_wp2_with fail
   go_ret
   exact ⟨rfl, HE.out⟩
 · have hsm := hsmm
   clear hsmm
   rw [decide_eq_true h1] at hsm
   have q0 := fz s0 h2
   have q1 := fz s1 h3
   have q2 := fz s2 h4
   have q3 : decide (32 ≤ s3) = true := decide_eq_true (by omega)
   clear h1 fz tz h2 h3 h4 h5
   refine region_grow 40 (by kernel_rfl) (by kernel_rfl) (by kernel_rfl) [.val (.slice (some ⟨g, o, none⟩) n c), .val (.int .i64 n), .val (.int .i64 k), .val (.int .i64 (S : Nat)), .val (.bool false), .val (.bool false), .val (.slice (some ⟨g, o, none⟩) n c), .val (.int .i64 (36 + 32 * (C : Int))), .val (.int .i64 (4 + (36 + 32 * (C : Int)))), .val (.int .i64 (36 + 32 * (C : Int))), .val (.int .i64 (8 + (36 + 32 * (C : Int)))), .val (.slice (some ⟨g, o + (40 + 32 * C), none⟩) 4 (c - (40 + 32 * C))), .rel (BIn N5), .val (.bool true), .val (.bool false), .val (.bool false), .val (.bool false), .val (.slice (some ⟨g, o, none⟩) n c), .val (.pointer (some ⟨g, o + 0, none⟩)), .val (.int .u8 s0), .val (.bool false), .val (.bool false), .val (.bool false), .val (.slice (some ⟨g, o, none⟩) n c), .val (.pointer (some ⟨g, o + 1, none⟩)), .val (.int .u8 s1), .val (.bool false), .val (.bool false), .val (.bool false), .val (.slice (some ⟨g, o, none⟩) n c), .val (.pointer (some ⟨g, o + 2, none⟩)), .val (.int .u8 s2), .val (.bool false), .val (.bool false), .val (.bool false), .val (.slice (some ⟨g, o, none⟩) n c), .val (.pointer (some ⟨g, o + 3, none⟩)), .val (.int .u8 s3), .val (.bool true), .val (.bool true)] rfl ?_
   have z3 := tt
   try go_frame
   repeat (first
    | (clear z3; refine sp_callN (v := .int .i64 (S : Nat)) (args := #[.int .i64 k]) rfl rfl (by simp [Act.eval]) Tryz.func55 (by kernel_rfl) (by kernel_rfl) (fun w' _ _ => hsz0.out w') ?_; try go_frame; have z4 := tt)
    | (clear z4; refine sp_run (v := .slice (some ⟨g, o + (40 + 32 * C), none⟩) 4 (c - (40 + 32 * C))) rfl (fun w' hw' _ => rn_part (l := 40 + 32 * C) (h := 44 + 32 * C) rfl rfl size_u8 rfl (by exact .yes (by omega)) (by exact .yes (by omega)) (by omega) (by omega) hcc (by omega) rfl) ?_; try go_frame; have z5 := tt)
    | (clear z5; refine sp_callR (args := #[.int .u64 5, .int .i64 4]) (BIn.mono _) rfl rfl (by simp [Act.eval]) Tryz.func42 (by kernel_rfl) (by kernel_rfl) (fun w' hw' hF => hn5.out w') ?_; intro v39; try go_frame; have z6 := tt)
    | (clear z6; refine sp_callN (v := .bool true) (args := #[.slice (some ⟨g, o + (40 + 32 * C), none⟩) 4 (c - (40 + 32 * C)), v39]) rfl rfl (by simp [Act.eval]) Tryz.func11 (by kernel_rfl) (by kernel_rfl) (fun w' hw' hF => hsm.out w' v39 (H3.out.trans hw') (hF.2 _ rfl (mE (by kernel_rfl)))) ?_; try go_frame; have z7 := tt)
    | (clear z7; refine sp_run (v := .pointer (some ⟨g, o + 0, none⟩)) rfl (fun w' _ _ => rn_idxSlN (j := 0) rfl rfl size_u8 rfl rfl rfl (by omega) rfl) ?_; try go_frame; have z8 := tt)
    | (clear z8; refine sp_run (v := .int .u8 s0) rfl (fun w' hw' _ => rn_cell rfl rfl rfl rfl (c0.out w' (H3.out.trans hw'))) ?_; try go_frame; have z9 := tt)
    | (clear z9; refine sp_run (v := .pointer (some ⟨g, o + 1, none⟩)) rfl (fun w' _ _ => rn_idxSlN (j := 1) rfl rfl size_u8 rfl rfl rfl (by omega) rfl) ?_; try go_frame; have z10 := tt)
    | (clear z10; refine sp_run (v := .int .u8 s1) rfl (fun w' hw' _ => rn_cell rfl rfl rfl rfl (c1.out w' (H3.out.trans hw'))) ?_; try go_frame; have z11 := tt)
    | (clear z11; refine sp_run (v := .pointer (some ⟨g, o + 2, none⟩)) rfl (fun w' _ _ => rn_idxSlN (j := 2) rfl rfl size_u8 rfl rfl rfl (by omega) rfl) ?_; try go_frame; have z12 := tt)
    | (clear z12; refine sp_run (v := .int .u8 s2) rfl (fun w' hw' _ => rn_cell rfl rfl rfl rfl (c2.out w' (H3.out.trans hw'))) ?_; try go_frame; have z13 := tt)
    | (clear z13; refine sp_run (v := .pointer (some ⟨g, o + 3, none⟩)) rfl (fun w' _ _ => rn_idxSlN (j := 3) rfl rfl size_u8 rfl rfl rfl (by omega) rfl) ?_; try go_frame; have z14 := tt)
    | (clear z14; refine sp_run (v := .int .u8 s3) rfl (fun w' hw' _ => rn_cell rfl rfl rfl rfl (c3.out w' (H3.out.trans hw'))) ?_; try go_frame; have z15 := tt)
    | (refine sp_skip rfl ?_; try go_frame)
    | (refine sp_val (fun w' hw' hF => ?_) ⟨_, rfl, nB rfl⟩ ?_
       · go_big_quiet_step (fail)
         exact rfl
       try go_frame))
   refine sp_nil ?_
   intro w4 hw' hF
   have HE := Hh (H3.out.trans hw')
   clear hw' hF
   simp only [List.drop_succ_cons, List.drop_zero]
   go_wp2_with fail
   go_ret
   exact ⟨rfl, HE.out⟩
set_option maxRecDepth 100000 in
theorem rver_none (w : World) (pv mv sv : Value) (pub sig : List Int) (hp : Old w pv pub) (hpb : IsBytes pub) (hs : Old w sv sig) (k : Nat) (hk : k = 1 ∨ k = 2 ∨ k = 4 ∨ k = 8) (hwk : widthL pub = k) (hsb : IsBytes sig) (msg : List Int) (hm : Old w mv msg) (hmb : IsBytes msg) (hml : msg.length ≤ 90000) (hne : sig.length = sizeOfL k) (hok : vOk k sig = true) (hE0 : ¬ candE k (vPart k sig) = 0) :
 Calls Tryz.prog 20 #[pv, mv, sv] w fun e w' => e = .returned (.int .i64 (if candE k (vPart k sig) = 0 then (if vRoot pub msg sig k = pub.drop 24 then 0 else 3) else 3)) ∧ Own w w' [] := by
 have H := Own.refl w
 have hwc := widthL_0 (bs := pub)
 have h56 : pub.length = 56 ∧ beN pub 4 = 5 := by
  by_cases h : pub.length = 56 ∧ beN pub 4 = 5
  · exact h
  · have := hwc h; omega
 obtain ⟨hpl, hp5⟩ := h56
 have hfm : Hid (Calls Tryz.prog 21 #[pv] w fun e w' => e = .returned (.bool true) ∧ Own w w' []) := by
  have h := rform_any w pv pub hp hpb
  rwa [decide_eq_true (by omega)] at h
 obtain ⟨bp, op, cp, e1, hpc⟩ := hp.at0 (by omega)
 subst e1
 have hwd : Hid (∀ w', Own w w' [] → Calls Tryz.prog 53 #[.slice (some ⟨bp, op + 4, none⟩) 4 (cp - 4)] w' fun e w'' => e = .returned (.int .i64 k) ∧ Own w' w'' []) := fun w' h => by
  have h1 := rwidth_any w' _ _ ((hp.mv h (by simp)).part (l := 4) (m := 4) (d := cp - 4) rfl (by omega) (by omega) (by omega)) (isBytes_take (isBytes_drop hpb _) _) (by rw [List.length_take, List.length_drop]; omega)
  rwa [show beN ((pub.drop 4).take 4) 4 = beN (pub.drop 4) 4 by simp [beN], ← widthL_D hpl hp5, hwk] at h1
 have hch := Hh (fun w' => refChains_k w' k hk)
 have hsz0 := Hh (fun w' => rsize_k w' k hk)
 obtain ⟨hC0, hC1⟩ := chN_le k
 have hnot : ∀ (x : Bool) (w : World), (Op.unary .not (.bool x)).run Tryz.prog w = .ok (.bool (!x)) w := fun _ _ => rfl
 have hsz9 : sizeOfL k = 204 + 32 * chN k := rfl
 obtain ⟨g, o, c, e2, hcc⟩ := hs.at0 (by omega)
 subst e2
 have hn5 : Hid (∀ w', Calls Tryz.prog 42 #[.int .u64 5, .int .i64 4] w' fun e w'' => ∃ r, e = .returned r ∧ BIn (numB 5 4) w'' r ∧ Own w' w'' []) := fun w' => refNum_any w' 5 4 (by omega) (by omega)
 have hsmm : Hid (∀ w' u, Own w w' [] → BIn (numB 5 4) w' u → Calls Tryz.prog 11 #[.slice (some ⟨g, o + (40 + 32 * chN k), none⟩) 4 (c - (40 + 32 * chN k)), u] w' fun e w'' => e = .returned (.bool (decide (beN (sig.drop (40 + 32 * chN k)) 4 = 5))) ∧ Own w' w'' []) := fun w' u h1 h2 => by
  have h := same_any w' _ u _ _ ((hs.mv h1 (by simp)).part (l := 40 + 32 * chN k) (m := 4) (d := c - (40 + 32 * chN k)) rfl (by omega) (by omega) (by omega)).1 h2.2.1 (isBytes_take (isBytes_drop hsb _) _) (isBytes_numB _ _)
  rw [show decide ((sig.drop (40 + 32 * chN k)).take 4 = numB 5 4) = decide (beN (sig.drop (40 + 32 * chN k)) 4 = 5) by
   rw [Bool.eq_iff_iff, decide_eq_true_eq, decide_eq_true_eq]; exact (beN_iff (c := 5) (isBytes_drop hsb _) (by rw [List.length_drop]; omega) (by omega)).symm] at h
  exact h
 have hby : ∀ j, j < sig.length → ∀ w', Own w w' [] → w'.cell? ⟨g, o + j, none⟩ = some (.int .u8 (sig[j]?.getD 0)) := fun j hj w' h => bytes_cellV (hs.mv h (by simp)).1 j _ (ints_get hj)
 have c0 := Hh (hby 0 (by omega))
 have c1 := Hh (hby 1 (by omega))
 have c2 := Hh (hby 2 (by omega))
 have c3 := Hh (hby 3 (by omega))
 have b3 := hsb 3 (by omega)
 obtain ⟨hD5, z0, z1, z2, q32⟩ := (vOk_iff hsb (by omega)).1 hok
 have hq3 : sig[3]?.getD 0 = ((vQ sig : Nat) : Int) := by
  have e : beN sig 4 = ((sig[0]?.getD 0 * 256 + sig[1]?.getD 0) * 256 + sig[2]?.getD 0) * 256 + sig[3]?.getD 0 := by simp [beN]
  unfold vQ
  rw [e, z0, z1, z2]
  omega
 rw [z0] at c0
 rw [z1] at c1
 rw [z2] at c2
 rw [hq3] at c3 q32
 rw [decide_eq_true hD5] at hsmm
 have hsm := hsmm
 clear hsmm b3
 obtain ⟨q, hq⟩ : ∃ q, q = vQ sig := ⟨_, rfl⟩
 rw [← hq] at c3 q32
 have hqn : q < 32 := by omega
 have hid16 : Hid ((vId pub).length = 16) := by show _ = _; unfold vId; rw [List.length_take, List.length_drop]; omega
 have hidB : IsBytes (vId pub) := isBytes_take (isBytes_drop hpb _) _
 have hidb : Hid (∀ w', Own w w' [] → BytesAt w' (.slice (some ⟨bp, op + 8, none⟩) 16 (cp - 8)) (vId pub)) := fun w' h => ((hp.mv h (by simp)).part (l := 8) (m := 16) (d := cp - 8) rfl (by omega) (by omega) (by omega)).1
 have hrtl : Hid ((pub.drop 24).length = 32) := by show _ = _; rw [List.length_drop]; omega
 have hsame : Hid (∀ w' v x, Own w w' [] → IsBytes x → BytesAt w' v x → Calls Tryz.prog 11 #[v, .slice (some ⟨bp, op + 24, none⟩) 32 (cp - 24)] w' fun e w'' => e = .returned (.bool (decide (x = pub.drop 24))) ∧ Own w' w'' []) := fun w' v x h hx h2 => by
  have h1 := ((hp.mv h (by simp)).part (l := 24) (m := 32) (d := cp - 24) rfl (by omega) (by omega) (by omega)).1
  rw [List.take_of_length_le (by rw [List.length_drop]; omega)] at h1
  exact same_any w' _ _ _ _ h2 h1 hx (isBytes_drop hpb _)
 have hszi := Hh (size_idL hid16.out)
 obtain ⟨id, hid⟩ : ∃ i, i = vId pub := ⟨_, rfl⟩
 rw [← hid] at hid16 hidb hszi hidB
 have hcan : Hid (∀ w', Own w w' [] → Calls Tryz.prog 56 #[.agg (u8s id).toArray, .int .i64 q, .int .i64 k, mv, .slice (some ⟨g, o + 4, none⟩) (36 + 32 * chN k) (c - 4)] w' fun e w'' => e = .returned (.tuple #[.agg (u8s (candOf id q k msg (vPart k sig))).toArray, .int .i64 (candE k (vPart k sig))]) ∧ Own w' w'' []) := fun w' h =>
  refCand_any w' id hid16.out hidB q k hqn hk mv _ msg (vPart k sig) (hm.mv h (by simp)) hmb hml ((hs.mv h (by simp)).part (l := 4) (m := 36 + 32 * chN k) (d := c - 4) rfl (by omega) (by omega) (by omega)) (isBytes_take (isBytes_drop hsb _) _)
 have hK : Hid ((candOf id q k msg (vPart k sig)).length = 32) := length_candOf _ _ _ _ _
 have hKb : IsBytes (candOf id q k msg (vPart k sig)) := by
  unfold candOf
  split
  · exact isBytes_sha _
  · exact isBytes_zeros 32
 have hroot : vRoot pub msg sig k = climbC id q (leafOf id (q + 32) (candOf id q k msg (vPart k sig))) (fun i => pcA sig (44 + 32 * chN k + 32 * i)) 5 := by unfold vRoot; rw [← hid, ← hq]
 obtain ⟨K, hK0⟩ : ∃ K, K = candOf id q k msg (vPart k sig) := ⟨_, rfl⟩
 obtain ⟨E, hE⟩ : ∃ E, E = candE k (vPart k sig) := ⟨_, rfl⟩
 have hEr : Hid (E = 0 ∨ E = 3) := by show _ ∨ _; rw [hE]; unfold candE; split; exact Or.inl rfl; exact Or.inr rfl
 rw [← hK0] at hcan hK hKb hroot
 rw [← hE] at hcan hE0 ⊢
 have hE3 : E = 3 := hEr.out.resolve_left hE0
 subst hE3
 have hlf : Hid (∀ w', Calls Tryz.prog 33 #[.agg (u8s id).toArray, .int .i64 ((q : Int) + 32), .agg (u8s K).toArray] w' fun e w'' => e = .returned (.agg (u8s (leafOf id (q + 32) K)).toArray) ∧ Own w' w'' []) := fun w' => rleaf_any w' id K hid16.out hidB hK.out hKb (q + 32) (by omega)
 have hin : Hid (∀ w' (m : Nat) x y, m < 64 → x.length = 32 → y.length = 32 → IsBytes x → IsBytes y → Calls Tryz.prog 35 #[.agg (u8s id).toArray, .int .i64 m, .agg (u8s x).toArray, .agg (u8s y).toArray] w' fun e w'' => e = .returned (.agg (u8s (innerOf id m x y)).toArray) ∧ Own w' w'' []) := fun w' m x y h0 hx hy tx ty => rinner_any w' id x y hid16.out hidB hx tx hy ty m h0
 have hyc : Hid (∀ w' i, i < 5 → Own w w' [] → BytesAt w' (.slice (some ⟨g, o + (44 + 32 * chN k + 32 * i), none⟩) 32 (c - (44 + 32 * chN k + 32 * i))) (pcA sig (44 + 32 * chN k + 32 * i))) := fun w' i hi h => by
  have h1 := ((hs.mv h (by simp)).part (l := 44 + 32 * chN k + 32 * i) (m := 32) (d := c - (44 + 32 * chN k + 32 * i)) rfl (by omega) (by omega) (by omega)).1
  rwa [← pcA_eq (by omega)] at h1
 obtain ⟨Y, hY⟩ : ∃ Y, Y = fun i => pcA sig (44 + 32 * chN k + 32 * i) := ⟨_, rfl⟩
 have hYl : Hid (∀ i, (Y i).length = 32) := fun i => by rw [hY]; exact length_pcA _ _
 have hYb : Hid (∀ i, IsBytes (Y i)) := fun i => by rw [hY]; exact isBytes_pcA hsb _
 have hYe : ∀ i, pcA sig (44 + 32 * chN k + 32 * i) = Y i := fun i => by rw [hY]
 simp only [hYe] at hyc hroot
 obtain ⟨X, hX⟩ : ∃ X, X = climbC id q (leafOf id (q + 32) K) Y := ⟨_, rfl⟩
 have hXl : Hid (∀ i, (X i).length = 32) := fun i => by rw [hX]; exact length_climbC rfl i
 have hXb : Hid (∀ i, IsBytes (X i)) := fun i => by rw [hX]; exact isBytes_climbC (isBytes_sha _) i
 have hX0 : leafOf id (q + 32) K = X 0 := by rw [hX]; rfl
 have hX1 : Hid (∀ i, (q + 32) / 2 ^ i % 2 = 1 → innerOf id ((q + 32) / 2 ^ i / 2) (Y i) (X i) = X (i + 1)) := fun i h => by rw [hX]; show _ = ite _ _ _; rw [if_pos h]
 have hX2 : Hid (∀ i, ¬ (q + 32) / 2 ^ i % 2 = 1 → innerOf id ((q + 32) / 2 ^ i / 2) (X i) (Y i) = X (i + 1)) := fun i h => by rw [hX]; show _ = ite _ _ _; rw [if_neg h]
 rw [hX0] at hlf
 have hX5 : vRoot pub msg sig k = X 5 := by rw [hroot, hX]
 rw [hX5]
 obtain ⟨RT, hRT⟩ : ∃ R, R = pub.drop 24 := ⟨_, rfl⟩
 rw [← hRT] at hsame hrtl ⊢
 obtain ⟨ANS, hAN⟩ : ∃ a : Int, a = if (3 : Int) = 0 then (if X 5 = RT then 0 else 3) else 3 := ⟨_, rfl⟩
 rw [← hAN]
 have hAN' := Hh hAN
 clear hAN
 obtain ⟨pm, cm, e3⟩ := hm.shape
 subst e3
 obtain ⟨ml, hmln⟩ : ∃ l, l = msg.length := ⟨_, rfl⟩
 rw [← hmln] at hcan ⊢
 have hsp16 : Hid (splice (u8s (List.replicate 16 0)) 0 (u8s id) = u8s id) := by show _ = _; unfold splice; rw [List.take_zero, List.nil_append, List.drop_of_length_le (by rw [length_ints, length_ints, hid16.out]; simp), List.append_nil]
 have hk16 : Hid ((u8s id).take 16 = u8s id) := List.take_of_length_le (by rw [length_ints, hid16.out]; omega)
 obtain ⟨C, hC⟩ : ∃ C, C = chN k := ⟨_, rfl⟩
 obtain ⟨S, hS⟩ : ∃ C, C = sizeOfL k := ⟨_, rfl⟩
 rw [← hC] at hch hsm hC0 hC1 hsz9 hcan hyc
 rw [← hS] at hsz0 hne hsz9
 obtain ⟨n, hn⟩ : ∃ n, n = sig.length := ⟨_, rfl⟩
 rw [← hn] at hne hcc ⊢
 obtain ⟨pn, hpn⟩ : ∃ n, n = pub.length := ⟨_, rfl⟩
 rw [← hpn] at hfm hpc hpl ⊢
 subst hpl
 have hne2 : ((n : Int) == (S : Int)) = true := by rw [beq_iff_eq]; omega
 have hne3 : ((n : Int) != (S : Int)) = false := by unfold bne; rw [hne2]; rfl
 have hn9 : 204 + 32 * C ≤ n := by omega
 have q3 : decide (32 ≤ (q : Int)) = false := decide_eq_false (by omega)
 obtain ⟨N5, hN5⟩ : ∃ n, n = numB 5 4 := ⟨_, rfl⟩
 rw [← hN5] at hn5 hsm
 clear hp hpb hs hsb hk hwk hC hS hn hpn hne hC0 hp5 hwc hN5 hby hsz9 hok hD5 z0 z1 z2 hq3 hq q32 hid hm hmb hml hK0 hKb hroot hE hY hYe hX hX0 hX5 hRT hmln hidB
 go_enter Tryz.func20, Tryz.ntmps20
 have z1 := tt
 go_wp2_with (first
  | (clear z1; go_at_call 21; refine hfm.out.mono ?_; rintro e w1 ⟨rfl, h3⟩; clear H; have H := h3; clear h3; have z2 := tt)
  | (clear z2; go_at_call 53; refine (hwd.out _ H).mono ?_; rintro e w2 ⟨rfl, h3⟩; replace H := H.call0 h3; clear h3; have z3 := tt)
  | (clear z3; go_at_call 54; refine (hch.out _).mono ?_; rintro e w3 ⟨rfl, h3⟩; replace H := H.call0 h3; clear h3; have z4 := tt))
 have H3 := Hh H
 clear H
 refine region_grow 40 (by kernel_rfl) (by kernel_rfl) (by kernel_rfl) [.val (.slice (some ⟨g, o, none⟩) n c), .val (.int .i64 n), .val (.int .i64 k), .val (.int .i64 (S : Nat)), .val (.bool false), .val (.bool false), .val (.slice (some ⟨g, o, none⟩) n c), .val (.int .i64 (36 + 32 * (C : Int))), .val (.int .i64 (4 + (36 + 32 * (C : Int)))), .val (.int .i64 (36 + 32 * (C : Int))), .val (.int .i64 (8 + (36 + 32 * (C : Int)))), .val (.slice (some ⟨g, o + (40 + 32 * C), none⟩) 4 (c - (40 + 32 * C))), .rel (BIn N5), .val (.bool true), .val (.bool false), .val (.bool false), .val (.bool false), .val (.slice (some ⟨g, o, none⟩) n c), .val (.pointer (some ⟨g, o + 0, none⟩)), .val (.int .u8 0), .val (.bool false), .val (.bool false), .val (.bool false), .val (.slice (some ⟨g, o, none⟩) n c), .val (.pointer (some ⟨g, o + 1, none⟩)), .val (.int .u8 0), .val (.bool false), .val (.bool false), .val (.bool false), .val (.slice (some ⟨g, o, none⟩) n c), .val (.pointer (some ⟨g, o + 2, none⟩)), .val (.int .u8 0), .val (.bool false), .val (.bool false), .val (.bool false), .val (.slice (some ⟨g, o, none⟩) n c), .val (.pointer (some ⟨g, o + 3, none⟩)), .val (.int .u8 q), .val (.bool false), .val (.bool false)] rfl ?_
 have z3 := tt
 try go_frame
 repeat (first
  | (clear z3; refine sp_callN (v := .int .i64 (S : Nat)) (args := #[.int .i64 k]) rfl rfl (by simp [Act.eval]) Tryz.func55 (by kernel_rfl) (by kernel_rfl) (fun w' _ _ => hsz0.out w') ?_; try go_frame; have z4 := tt)
  | (clear z4; refine sp_run (v := .slice (some ⟨g, o + (40 + 32 * C), none⟩) 4 (c - (40 + 32 * C))) rfl (fun w' hw' _ => rn_part (l := 40 + 32 * C) (h := 44 + 32 * C) rfl rfl size_u8 rfl (by exact .yes (by omega)) (by exact .yes (by omega)) (by omega) (by omega) hcc (by omega) rfl) ?_; try go_frame; have z5 := tt)
  | (clear z5; refine sp_callR (args := #[.int .u64 5, .int .i64 4]) (BIn.mono _) rfl rfl (by simp [Act.eval]) Tryz.func42 (by kernel_rfl) (by kernel_rfl) (fun w' hw' hF => hn5.out w') ?_; intro v39; try go_frame; have z6 := tt)
  | (clear z6; refine sp_callN (v := .bool true) (args := #[.slice (some ⟨g, o + (40 + 32 * C), none⟩) 4 (c - (40 + 32 * C)), v39]) rfl rfl (by simp [Act.eval]) Tryz.func11 (by kernel_rfl) (by kernel_rfl) (fun w' hw' hF => hsm.out w' v39 (H3.out.trans hw') (hF.2 _ rfl (mE (by kernel_rfl)))) ?_; try go_frame; have z7 := tt)
  | (clear z7; refine sp_run (v := .pointer (some ⟨g, o + 0, none⟩)) rfl (fun w' _ _ => rn_idxSlN (j := 0) rfl rfl size_u8 rfl rfl rfl (by omega) rfl) ?_; try go_frame; have z8 := tt)
  | (clear z8; refine sp_run (v := .int .u8 0) rfl (fun w' hw' _ => rn_cell rfl rfl rfl rfl (c0.out w' (H3.out.trans hw'))) ?_; try go_frame; have z9 := tt)
  | (clear z9; refine sp_run (v := .pointer (some ⟨g, o + 1, none⟩)) rfl (fun w' _ _ => rn_idxSlN (j := 1) rfl rfl size_u8 rfl rfl rfl (by omega) rfl) ?_; try go_frame; have z10 := tt)
  | (clear z10; refine sp_run (v := .int .u8 0) rfl (fun w' hw' _ => rn_cell rfl rfl rfl rfl (c1.out w' (H3.out.trans hw'))) ?_; try go_frame; have z11 := tt)
  | (clear z11; refine sp_run (v := .pointer (some ⟨g, o + 2, none⟩)) rfl (fun w' _ _ => rn_idxSlN (j := 2) rfl rfl size_u8 rfl rfl rfl (by omega) rfl) ?_; try go_frame; have z12 := tt)
  | (clear z12; refine sp_run (v := .int .u8 0) rfl (fun w' hw' _ => rn_cell rfl rfl rfl rfl (c2.out w' (H3.out.trans hw'))) ?_; try go_frame; have z13 := tt)
  | (clear z13; refine sp_run (v := .pointer (some ⟨g, o + 3, none⟩)) rfl (fun w' _ _ => rn_idxSlN (j := 3) rfl rfl size_u8 rfl rfl rfl (by omega) rfl) ?_; try go_frame; have z14 := tt)
  | (clear z14; refine sp_run (v := .int .u8 q) rfl (fun w' hw' _ => rn_cell rfl rfl rfl rfl (c3.out w' (H3.out.trans hw'))) ?_; try go_frame; have z15 := tt)
  | (refine sp_skip rfl ?_; try go_frame)
  | (refine sp_val (fun w' hw' hF => ?_) ⟨_, rfl, nB rfl⟩ ?_
     · go_big_quiet_step (fail)
       exact rfl
     try go_frame))
 refine sp_nil ?_
 intro w4 hw' hF
 have H := H3.out.trans hw'
 clear hw' hF H3 hsm hn5 hne2 hne3 q3 c0 c1 c2 hsz0 hch hwd hfm
 simp only [List.drop_succ_cons, List.drop_zero]
 have z1 := tt
 go_wp2_with (first
  | (clear z1; refine st_new rfl (rn_alloc H rfl info_id16) ?_; clear H; intro b9 w5 hb9 H; have z2 := tt))
 have hg9 := Hh hb9
 have H5 := Hh H
 clear H
 refine region_grow 3 (by kernel_rfl) (by kernel_rfl) (by kernel_rfl) [.val (.slice (some ⟨b9, 0, none⟩) 16 16), .val (.slice (some ⟨bp, op, none⟩) 56 cp), .val (.slice (some ⟨bp, op + 8, none⟩) 16 (cp - 8))] rfl ?_
 have z3 := tt
 try go_frame
 repeat (first
  | (clear z3; refine sp_run (v := .slice (some ⟨b9, 0, none⟩) 16 16) rfl (fun w' hw' _ => rn_sliceAll rfl rfl size_u8 rfl (by omega)) ?_; try go_frame; have z4 := tt)
  | (clear z4; refine sp_run (v := .slice (some ⟨bp, op + 8, none⟩) 16 (cp - 8)) rfl (fun w' hw' _ => rn_part (l := 8) (h := 24) rfl rfl size_u8 rfl (by exact .yes rfl) (by exact .yes rfl) (by omega) (by omega) hpc (by omega) rfl) ?_; try go_frame; have z5 := tt)
  | (refine sp_val (fun w' hw' hF => ?_) ⟨_, rfl, nB rfl⟩ ?_
     · go_big_quiet_step (fail)
       exact rfl
     try go_frame))
 refine sp_nil ?_
 intro w6 hw' hF
 have H := H5.out.call0 hw'
 clear hw' hF H5
 have hid2 := Hh (hidb.out w6 (H.end0 (by have := hg9.out; simp; omega)))
 simp only [List.drop_succ_cons, List.drop_zero]
 have z1 := tt
 go_wp2_with (first
  | (clear z1; refine st_both rfl (rn_copy (sv := .slice (some ⟨bp, op + 8, none⟩) 16 (cp - 8)) (xs := u8s id) (k := 16) H rfl rfl size_u8 rfl rfl (by have h := hid2.out; rw [BytesAt, hid16.out] at h; exact h) (by rw [length_ints, hid16.out]) .head (by simp) (oneCell_ints _ _) rfl) ?_; clear H; intro w7 H; rw [hk16.out, hsp16.out] at H; have z2 := tt)
  | (clear z2; refine st_val rfl (rn_idxSlN (j := 3) rfl rfl size_u8 rfl rfl rfl (by omega) rfl) ?_; have z3 := tt)
  | (clear z3; refine st_val rfl (rn_cell rfl rfl rfl rfl (c3.out _ (H.end0 (by have := hg9.out; simp; omega)))) ?_; have z4 := tt))
 have H7 := Hh H
 have c_id : Hid (∀ w', Own w7 w' [] → ∀ j v, (u8s id)[j]? = some v → w'.cell? ⟨b9, 0 + j, none⟩ = some v) := fun w' h j v hj => by rw [(H7.out.call0 h).cell (.head _), Nat.zero_add]; exact hj
 have hw7 : Hid (∀ w', Own w7 w' [] → Own w w' []) := fun w' h => (H7.out.call0 h).end0 (by have := hg9.out; simp; omega)
 clear H hid2 c3 hidb hk16 hsp16
 refine region_effF 14 (by kernel_rfl) (by kernel_rfl) (by kernel_rfl) [.val (.agg (u8s id).toArray), .val (.int .i64 q), .val (.int .i64 k), .val (.slice pm ml cm), .val (.slice (some ⟨g, o, none⟩) n c), .val (.int .i64 (36 + 32 * (C : Int))), .val (.int .i64 (4 + (36 + 32 * (C : Int)))), .val (.slice (some ⟨g, o + 4, none⟩) (36 + 32 * C) (c - 4)), .val (.tuple #[.agg (u8s K).toArray, .int .i64 3]), .val (.tuple #[.agg (u8s K).toArray, .int .i64 3]), .val (.agg (u8s K).toArray), .val (.int .i64 3), .rel (CellN w7.heap.size 32 24), .eff (SeT 32 24) (fun _ _ => True)] rfl ?_ (by kernel_rfl) (StS w7 11 (u8s K) 24) (Own.refl w7) StS.m [11] 13 (fun s a' w' d v h1 h2 => StS.p s a' w' d v h1 h2) (by kernel_rfl) ?_
 · simp only [eAll, eRow, Se.pres, or_true, true_and, and_true, implies_true]
   exact Or.inr (Or.inr CellN.presS)
 have z3 := tt
 try go_frame
 repeat (first
  | (clear z3; refine sf_run (v := .agg (u8s id).toArray) rfl (fun w' hw' _ => by obtain ⟨s, a', hs⟩ := hw'; exact rn_cells rfl rfl rfl rfl hszi.out (c_id.out w' (StS.own s hs))) ?_; try go_frame; have z4 := tt)
  | (clear z4; refine sf_run (v := .slice (some ⟨g, o + 4, none⟩) (36 + 32 * C) (c - 4)) rfl (fun w' _ _ => rn_part (l := 4) (h := 40 + 32 * C) rfl rfl size_u8 rfl (by exact .yes rfl) (by exact .yes (by omega)) (by omega) (by omega) hcc (by omega) rfl) ?_; try go_frame; have z5 := tt)
  | (clear z5; refine sf_callN (v := .tuple #[.agg (u8s K).toArray, .int .i64 3]) (args := #[.agg (u8s id).toArray, .int .i64 q, .int .i64 k, .slice pm ml cm, .slice (some ⟨g, o + 4, none⟩) (36 + 32 * C) (c - 4)]) rfl rfl (by simp [Act.eval]) Tryz.func56 (by kernel_rfl) (by kernel_rfl) (fun w' hw' _ => by obtain ⟨s, a', hs⟩ := hw'; exact hcan.out w' (hw7.out w' (StS.own s hs))) ?_; try go_frame; have z6 := tt)
  | (clear z6; refine sf_rel CellN.mono rfl (fun w' hw' _ => by obtain ⟨s, a', hs⟩ := hw'; exact cellN_alloc rfl info_hash rfl (StS.own s hs).size) ?_; intro v11; try go_frame; have z7 := tt)
  | (refine sf_val (fun w' hw' hF => ?_) ⟨_, rfl, nB rfl⟩ ?_
     · go_big_quiet_step (fail)
       exact rfl
     try go_frame))
 refine sf_store rfl rfl (fun a' w' hag hS hF => ?_) ?_
 · obtain ⟨g, cs, e2, q1, q2, q3⟩ := hF.2 _ rfl (mE (by kernel_rfl))
   subst e2
   exact (rn_storeAll (vs := u8s K) (Own.one q3) rfl rfl rfl (size_hashL hK.out) .head (by rw [length_ints, q2]; exact hK.out) (oneCell_ints _ _)).imp fun w2 h => ⟨h.1, ⟨g, cs, _, q3, h.2, by rw [length_ints]; exact hK.out⟩, (Own.young hS h.2 q1 (by simp)), g, hag 11 (mE (by kernel_rfl)), q1, h.2.here _ _ _ (.head _)⟩
 refine sf_nil ?_
 intro w8 hS hF
 obtain ⟨hw', b11, e2, hg, hgc⟩ := hS
 have e2' : v11 = .pointer (some ⟨b11, 0, none⟩) := e2
 subst e2'
 have H := (H7.out.call0 hw').adopt hgc (fun hm => by
  simp only [List.map_cons, List.map_nil, List.mem_cons, List.not_mem_nil, or_false] at hm
  have := H7.out.lt (.head _); omega)
 have hg11 := Hh (Nat.le_trans H7.out.size hg)
 clear hw' hF hgc e2 hg c_id hw7 H7 hcan
 simp only [List.drop_succ_cons, List.drop_zero]
 have HE := Hh (H.end0 (by have := hg9.out; have := hg11.out; simp; omega))
 clear H
 go_wp2_with fail
 go_ret
 exact ⟨by rw [hAN'.out, if_neg (by decide)]; rfl, HE.out⟩
set_option maxRecDepth 100000 in
theorem rver_main (w : World) (pv mv sv : Value) (pub sig : List Int) (hp : Old w pv pub) (hpb : IsBytes pub) (hs : Old w sv sig) (k : Nat) (hk : k = 1 ∨ k = 2 ∨ k = 4 ∨ k = 8) (hwk : widthL pub = k) (hsb : IsBytes sig) (msg : List Int) (hm : Old w mv msg) (hmb : IsBytes msg) (hml : msg.length ≤ 90000) (hne : sig.length = sizeOfL k) (hok : vOk k sig = true) (hE0 : candE k (vPart k sig) = 0) :
 Calls Tryz.prog 20 #[pv, mv, sv] w fun e w' => e = .returned (.int .i64 (if candE k (vPart k sig) = 0 then (if vRoot pub msg sig k = pub.drop 24 then 0 else 3) else 3)) ∧ Own w w' [] := by
 have H := Own.refl w
 have hwc := widthL_0 (bs := pub)
 have h56 : pub.length = 56 ∧ beN pub 4 = 5 := by
  by_cases h : pub.length = 56 ∧ beN pub 4 = 5
  · exact h
  · have := hwc h; omega
 obtain ⟨hpl, hp5⟩ := h56
 have hfm : Hid (Calls Tryz.prog 21 #[pv] w fun e w' => e = .returned (.bool true) ∧ Own w w' []) := by
  have h := rform_any w pv pub hp hpb
  rwa [decide_eq_true (by omega)] at h
 obtain ⟨bp, op, cp, e1, hpc⟩ := hp.at0 (by omega)
 subst e1
 have hwd : Hid (∀ w', Own w w' [] → Calls Tryz.prog 53 #[.slice (some ⟨bp, op + 4, none⟩) 4 (cp - 4)] w' fun e w'' => e = .returned (.int .i64 k) ∧ Own w' w'' []) := fun w' h => by
  have h1 := rwidth_any w' _ _ ((hp.mv h (by simp)).part (l := 4) (m := 4) (d := cp - 4) rfl (by omega) (by omega) (by omega)) (isBytes_take (isBytes_drop hpb _) _) (by rw [List.length_take, List.length_drop]; omega)
  rwa [show beN ((pub.drop 4).take 4) 4 = beN (pub.drop 4) 4 by simp [beN], ← widthL_D hpl hp5, hwk] at h1
 have hch := Hh (fun w' => refChains_k w' k hk)
 have hsz0 := Hh (fun w' => rsize_k w' k hk)
 obtain ⟨hC0, hC1⟩ := chN_le k
 have hnot : ∀ (x : Bool) (w : World), (Op.unary .not (.bool x)).run Tryz.prog w = .ok (.bool (!x)) w := fun _ _ => rfl
 have hsz9 : sizeOfL k = 204 + 32 * chN k := rfl
 obtain ⟨g, o, c, e2, hcc⟩ := hs.at0 (by omega)
 subst e2
 have hn5 : Hid (∀ w', Calls Tryz.prog 42 #[.int .u64 5, .int .i64 4] w' fun e w'' => ∃ r, e = .returned r ∧ BIn (numB 5 4) w'' r ∧ Own w' w'' []) := fun w' => refNum_any w' 5 4 (by omega) (by omega)
 have hsmm : Hid (∀ w' u, Own w w' [] → BIn (numB 5 4) w' u → Calls Tryz.prog 11 #[.slice (some ⟨g, o + (40 + 32 * chN k), none⟩) 4 (c - (40 + 32 * chN k)), u] w' fun e w'' => e = .returned (.bool (decide (beN (sig.drop (40 + 32 * chN k)) 4 = 5))) ∧ Own w' w'' []) := fun w' u h1 h2 => by
  have h := same_any w' _ u _ _ ((hs.mv h1 (by simp)).part (l := 40 + 32 * chN k) (m := 4) (d := c - (40 + 32 * chN k)) rfl (by omega) (by omega) (by omega)).1 h2.2.1 (isBytes_take (isBytes_drop hsb _) _) (isBytes_numB _ _)
  rw [show decide ((sig.drop (40 + 32 * chN k)).take 4 = numB 5 4) = decide (beN (sig.drop (40 + 32 * chN k)) 4 = 5) by
   rw [Bool.eq_iff_iff, decide_eq_true_eq, decide_eq_true_eq]; exact (beN_iff (c := 5) (isBytes_drop hsb _) (by rw [List.length_drop]; omega) (by omega)).symm] at h
  exact h
 have hby : ∀ j, j < sig.length → ∀ w', Own w w' [] → w'.cell? ⟨g, o + j, none⟩ = some (.int .u8 (sig[j]?.getD 0)) := fun j hj w' h => bytes_cellV (hs.mv h (by simp)).1 j _ (ints_get hj)
 have c0 := Hh (hby 0 (by omega))
 have c1 := Hh (hby 1 (by omega))
 have c2 := Hh (hby 2 (by omega))
 have c3 := Hh (hby 3 (by omega))
 have b3 := hsb 3 (by omega)
 obtain ⟨hD5, z0, z1, z2, q32⟩ := (vOk_iff hsb (by omega)).1 hok
 have hq3 : sig[3]?.getD 0 = ((vQ sig : Nat) : Int) := by
  have e : beN sig 4 = ((sig[0]?.getD 0 * 256 + sig[1]?.getD 0) * 256 + sig[2]?.getD 0) * 256 + sig[3]?.getD 0 := by simp [beN]
  unfold vQ
  rw [e, z0, z1, z2]
  omega
 rw [z0] at c0
 rw [z1] at c1
 rw [z2] at c2
 rw [hq3] at c3 q32
 rw [decide_eq_true hD5] at hsmm
 have hsm := hsmm
 clear hsmm b3
 obtain ⟨q, hq⟩ : ∃ q, q = vQ sig := ⟨_, rfl⟩
 rw [← hq] at c3 q32
 have hqn : q < 32 := by omega
 have hid16 : Hid ((vId pub).length = 16) := by show _ = _; unfold vId; rw [List.length_take, List.length_drop]; omega
 have hidB : IsBytes (vId pub) := isBytes_take (isBytes_drop hpb _) _
 have hidb : Hid (∀ w', Own w w' [] → BytesAt w' (.slice (some ⟨bp, op + 8, none⟩) 16 (cp - 8)) (vId pub)) := fun w' h => ((hp.mv h (by simp)).part (l := 8) (m := 16) (d := cp - 8) rfl (by omega) (by omega) (by omega)).1
 have hrtl : Hid ((pub.drop 24).length = 32) := by show _ = _; rw [List.length_drop]; omega
 have hsame : Hid (∀ w' v x, Own w w' [] → IsBytes x → BytesAt w' v x → Calls Tryz.prog 11 #[v, .slice (some ⟨bp, op + 24, none⟩) 32 (cp - 24)] w' fun e w'' => e = .returned (.bool (decide (x = pub.drop 24))) ∧ Own w' w'' []) := fun w' v x h hx h2 => by
  have h1 := ((hp.mv h (by simp)).part (l := 24) (m := 32) (d := cp - 24) rfl (by omega) (by omega) (by omega)).1
  rw [List.take_of_length_le (by rw [List.length_drop]; omega)] at h1
  exact same_any w' _ _ _ _ h2 h1 hx (isBytes_drop hpb _)
 have hszi := Hh (size_idL hid16.out)
 obtain ⟨id, hid⟩ : ∃ i, i = vId pub := ⟨_, rfl⟩
 rw [← hid] at hid16 hidb hszi hidB
 have hcan : Hid (∀ w', Own w w' [] → Calls Tryz.prog 56 #[.agg (u8s id).toArray, .int .i64 q, .int .i64 k, mv, .slice (some ⟨g, o + 4, none⟩) (36 + 32 * chN k) (c - 4)] w' fun e w'' => e = .returned (.tuple #[.agg (u8s (candOf id q k msg (vPart k sig))).toArray, .int .i64 (candE k (vPart k sig))]) ∧ Own w' w'' []) := fun w' h =>
  refCand_any w' id hid16.out hidB q k hqn hk mv _ msg (vPart k sig) (hm.mv h (by simp)) hmb hml ((hs.mv h (by simp)).part (l := 4) (m := 36 + 32 * chN k) (d := c - 4) rfl (by omega) (by omega) (by omega)) (isBytes_take (isBytes_drop hsb _) _)
 have hK : Hid ((candOf id q k msg (vPart k sig)).length = 32) := length_candOf _ _ _ _ _
 have hKb : IsBytes (candOf id q k msg (vPart k sig)) := by
  unfold candOf
  split
  · exact isBytes_sha _
  · exact isBytes_zeros 32
 have hroot : vRoot pub msg sig k = climbC id q (leafOf id (q + 32) (candOf id q k msg (vPart k sig))) (fun i => pcA sig (44 + 32 * chN k + 32 * i)) 5 := by unfold vRoot; rw [← hid, ← hq]
 obtain ⟨K, hK0⟩ : ∃ K, K = candOf id q k msg (vPart k sig) := ⟨_, rfl⟩
 obtain ⟨E, hE⟩ : ∃ E, E = candE k (vPart k sig) := ⟨_, rfl⟩
 rw [← hK0] at hcan hK hKb hroot
 rw [← hE] at hcan hE0 ⊢
 subst hE0
 have hlf : Hid (∀ w', Calls Tryz.prog 33 #[.agg (u8s id).toArray, .int .i64 ((q : Int) + 32), .agg (u8s K).toArray] w' fun e w'' => e = .returned (.agg (u8s (leafOf id (q + 32) K)).toArray) ∧ Own w' w'' []) := fun w' => rleaf_any w' id K hid16.out hidB hK.out hKb (q + 32) (by omega)
 have hin : Hid (∀ w' (m : Nat) x y, m < 64 → x.length = 32 → y.length = 32 → IsBytes x → IsBytes y → Calls Tryz.prog 35 #[.agg (u8s id).toArray, .int .i64 m, .agg (u8s x).toArray, .agg (u8s y).toArray] w' fun e w'' => e = .returned (.agg (u8s (innerOf id m x y)).toArray) ∧ Own w' w'' []) := fun w' m x y h0 hx hy tx ty => rinner_any w' id x y hid16.out hidB hx tx hy ty m h0
 have hyc : Hid (∀ w' i, i < 5 → Own w w' [] → BytesAt w' (.slice (some ⟨g, o + (44 + 32 * chN k + 32 * i), none⟩) 32 (c - (44 + 32 * chN k + 32 * i))) (pcA sig (44 + 32 * chN k + 32 * i))) := fun w' i hi h => by
  have h1 := ((hs.mv h (by simp)).part (l := 44 + 32 * chN k + 32 * i) (m := 32) (d := c - (44 + 32 * chN k + 32 * i)) rfl (by omega) (by omega) (by omega)).1
  rwa [← pcA_eq (by omega)] at h1
 obtain ⟨Y, hY⟩ : ∃ Y, Y = fun i => pcA sig (44 + 32 * chN k + 32 * i) := ⟨_, rfl⟩
 have hYl : Hid (∀ i, (Y i).length = 32) := fun i => by rw [hY]; exact length_pcA _ _
 have hYb : Hid (∀ i, IsBytes (Y i)) := fun i => by rw [hY]; exact isBytes_pcA hsb _
 have hYe : ∀ i, pcA sig (44 + 32 * chN k + 32 * i) = Y i := fun i => by rw [hY]
 simp only [hYe] at hyc hroot
 obtain ⟨X, hX⟩ : ∃ X, X = climbC id q (leafOf id (q + 32) K) Y := ⟨_, rfl⟩
 have hXl : Hid (∀ i, (X i).length = 32) := fun i => by rw [hX]; exact length_climbC rfl i
 have hXb : Hid (∀ i, IsBytes (X i)) := fun i => by rw [hX]; exact isBytes_climbC (isBytes_sha _) i
 have hX0 : leafOf id (q + 32) K = X 0 := by rw [hX]; rfl
 have hX1 : Hid (∀ i, (q + 32) / 2 ^ i % 2 = 1 → innerOf id ((q + 32) / 2 ^ i / 2) (Y i) (X i) = X (i + 1)) := fun i h => by rw [hX]; show _ = ite _ _ _; rw [if_pos h]
 have hX2 : Hid (∀ i, ¬ (q + 32) / 2 ^ i % 2 = 1 → innerOf id ((q + 32) / 2 ^ i / 2) (X i) (Y i) = X (i + 1)) := fun i h => by rw [hX]; show _ = ite _ _ _; rw [if_neg h]
 rw [hX0] at hlf
 have hX5 : vRoot pub msg sig k = X 5 := by rw [hroot, hX]
 rw [hX5]
 obtain ⟨RT, hRT⟩ : ∃ R, R = pub.drop 24 := ⟨_, rfl⟩
 rw [← hRT] at hsame hrtl ⊢
 obtain ⟨ANS, hAN⟩ : ∃ a : Int, a = if (0 : Int) = 0 then (if X 5 = RT then 0 else 3) else 3 := ⟨_, rfl⟩
 rw [← hAN]
 have hAN' := Hh hAN
 clear hAN
 obtain ⟨pm, cm, e3⟩ := hm.shape
 subst e3
 obtain ⟨ml, hmln⟩ : ∃ l, l = msg.length := ⟨_, rfl⟩
 rw [← hmln] at hcan ⊢
 have hsp16 : Hid (splice (u8s (List.replicate 16 0)) 0 (u8s id) = u8s id) := by show _ = _; unfold splice; rw [List.take_zero, List.nil_append, List.drop_of_length_le (by rw [length_ints, length_ints, hid16.out]; simp), List.append_nil]
 have hk16 : Hid ((u8s id).take 16 = u8s id) := List.take_of_length_le (by rw [length_ints, hid16.out]; omega)
 obtain ⟨C, hC⟩ : ∃ C, C = chN k := ⟨_, rfl⟩
 obtain ⟨S, hS⟩ : ∃ C, C = sizeOfL k := ⟨_, rfl⟩
 rw [← hC] at hch hsm hC0 hC1 hsz9 hcan hyc
 rw [← hS] at hsz0 hne hsz9
 obtain ⟨n, hn⟩ : ∃ n, n = sig.length := ⟨_, rfl⟩
 rw [← hn] at hne hcc ⊢
 obtain ⟨pn, hpn⟩ : ∃ n, n = pub.length := ⟨_, rfl⟩
 rw [← hpn] at hfm hpc hpl ⊢
 subst hpl
 have hne2 : ((n : Int) == (S : Int)) = true := by rw [beq_iff_eq]; omega
 have hne3 : ((n : Int) != (S : Int)) = false := by unfold bne; rw [hne2]; rfl
 have hn9 : 204 + 32 * C ≤ n := by omega
 have q3 : decide (32 ≤ (q : Int)) = false := decide_eq_false (by omega)
 obtain ⟨N5, hN5⟩ : ∃ n, n = numB 5 4 := ⟨_, rfl⟩
 rw [← hN5] at hn5 hsm
 clear hp hpb hs hsb hk hwk hC hS hn hpn hne hC0 hp5 hwc hN5 hby hsz9 hok hD5 z0 z1 z2 hq3 hq q32 hid hm hmb hml hK0 hKb hroot hE hY hYe hX hX0 hX5 hRT hmln hidB
 have hAN2 : Hid (ANS = if X 5 = RT then 0 else 3) := by have h := hAN'.out; rw [if_pos rfl] at h; exact h
 clear hAN'
 have hAN' := hAN2
 clear hAN2
 go_enter Tryz.func20, Tryz.ntmps20
 have z1 := tt
 go_wp2_with (first
  | (clear z1; go_at_call 21; refine hfm.out.mono ?_; rintro e w1 ⟨rfl, h3⟩; clear H; have H := h3; clear h3; have z2 := tt)
  | (clear z2; go_at_call 53; refine (hwd.out _ H).mono ?_; rintro e w2 ⟨rfl, h3⟩; replace H := H.call0 h3; clear h3; have z3 := tt)
  | (clear z3; go_at_call 54; refine (hch.out _).mono ?_; rintro e w3 ⟨rfl, h3⟩; replace H := H.call0 h3; clear h3; have z4 := tt))
 have H3 := Hh H
 clear H
 refine region_grow 40 (by kernel_rfl) (by kernel_rfl) (by kernel_rfl) [.val (.slice (some ⟨g, o, none⟩) n c), .val (.int .i64 n), .val (.int .i64 k), .val (.int .i64 (S : Nat)), .val (.bool false), .val (.bool false), .val (.slice (some ⟨g, o, none⟩) n c), .val (.int .i64 (36 + 32 * (C : Int))), .val (.int .i64 (4 + (36 + 32 * (C : Int)))), .val (.int .i64 (36 + 32 * (C : Int))), .val (.int .i64 (8 + (36 + 32 * (C : Int)))), .val (.slice (some ⟨g, o + (40 + 32 * C), none⟩) 4 (c - (40 + 32 * C))), .rel (BIn N5), .val (.bool true), .val (.bool false), .val (.bool false), .val (.bool false), .val (.slice (some ⟨g, o, none⟩) n c), .val (.pointer (some ⟨g, o + 0, none⟩)), .val (.int .u8 0), .val (.bool false), .val (.bool false), .val (.bool false), .val (.slice (some ⟨g, o, none⟩) n c), .val (.pointer (some ⟨g, o + 1, none⟩)), .val (.int .u8 0), .val (.bool false), .val (.bool false), .val (.bool false), .val (.slice (some ⟨g, o, none⟩) n c), .val (.pointer (some ⟨g, o + 2, none⟩)), .val (.int .u8 0), .val (.bool false), .val (.bool false), .val (.bool false), .val (.slice (some ⟨g, o, none⟩) n c), .val (.pointer (some ⟨g, o + 3, none⟩)), .val (.int .u8 q), .val (.bool false), .val (.bool false)] rfl ?_
 have z3 := tt
 try go_frame
 repeat (first
  | (clear z3; refine sp_callN (v := .int .i64 (S : Nat)) (args := #[.int .i64 k]) rfl rfl (by simp [Act.eval]) Tryz.func55 (by kernel_rfl) (by kernel_rfl) (fun w' _ _ => hsz0.out w') ?_; try go_frame; have z4 := tt)
  | (clear z4; refine sp_run (v := .slice (some ⟨g, o + (40 + 32 * C), none⟩) 4 (c - (40 + 32 * C))) rfl (fun w' hw' _ => rn_part (l := 40 + 32 * C) (h := 44 + 32 * C) rfl rfl size_u8 rfl (by exact .yes (by omega)) (by exact .yes (by omega)) (by omega) (by omega) hcc (by omega) rfl) ?_; try go_frame; have z5 := tt)
  | (clear z5; refine sp_callR (args := #[.int .u64 5, .int .i64 4]) (BIn.mono _) rfl rfl (by simp [Act.eval]) Tryz.func42 (by kernel_rfl) (by kernel_rfl) (fun w' hw' hF => hn5.out w') ?_; intro v39; try go_frame; have z6 := tt)
  | (clear z6; refine sp_callN (v := .bool true) (args := #[.slice (some ⟨g, o + (40 + 32 * C), none⟩) 4 (c - (40 + 32 * C)), v39]) rfl rfl (by simp [Act.eval]) Tryz.func11 (by kernel_rfl) (by kernel_rfl) (fun w' hw' hF => hsm.out w' v39 (H3.out.trans hw') (hF.2 _ rfl (mE (by kernel_rfl)))) ?_; try go_frame; have z7 := tt)
  | (clear z7; refine sp_run (v := .pointer (some ⟨g, o + 0, none⟩)) rfl (fun w' _ _ => rn_idxSlN (j := 0) rfl rfl size_u8 rfl rfl rfl (by omega) rfl) ?_; try go_frame; have z8 := tt)
  | (clear z8; refine sp_run (v := .int .u8 0) rfl (fun w' hw' _ => rn_cell rfl rfl rfl rfl (c0.out w' (H3.out.trans hw'))) ?_; try go_frame; have z9 := tt)
  | (clear z9; refine sp_run (v := .pointer (some ⟨g, o + 1, none⟩)) rfl (fun w' _ _ => rn_idxSlN (j := 1) rfl rfl size_u8 rfl rfl rfl (by omega) rfl) ?_; try go_frame; have z10 := tt)
  | (clear z10; refine sp_run (v := .int .u8 0) rfl (fun w' hw' _ => rn_cell rfl rfl rfl rfl (c1.out w' (H3.out.trans hw'))) ?_; try go_frame; have z11 := tt)
  | (clear z11; refine sp_run (v := .pointer (some ⟨g, o + 2, none⟩)) rfl (fun w' _ _ => rn_idxSlN (j := 2) rfl rfl size_u8 rfl rfl rfl (by omega) rfl) ?_; try go_frame; have z12 := tt)
  | (clear z12; refine sp_run (v := .int .u8 0) rfl (fun w' hw' _ => rn_cell rfl rfl rfl rfl (c2.out w' (H3.out.trans hw'))) ?_; try go_frame; have z13 := tt)
  | (clear z13; refine sp_run (v := .pointer (some ⟨g, o + 3, none⟩)) rfl (fun w' _ _ => rn_idxSlN (j := 3) rfl rfl size_u8 rfl rfl rfl (by omega) rfl) ?_; try go_frame; have z14 := tt)
  | (clear z14; refine sp_run (v := .int .u8 q) rfl (fun w' hw' _ => rn_cell rfl rfl rfl rfl (c3.out w' (H3.out.trans hw'))) ?_; try go_frame; have z15 := tt)
  | (refine sp_skip rfl ?_; try go_frame)
  | (refine sp_val (fun w' hw' hF => ?_) ⟨_, rfl, nB rfl⟩ ?_
     · go_big_quiet_step (fail)
       exact rfl
     try go_frame))
 refine sp_nil ?_
 intro w4 hw' hF
 have H := H3.out.trans hw'
 clear hw' hF H3 hsm hn5 hne2 hne3 q3 c0 c1 c2 hsz0 hch hwd hfm
 simp only [List.drop_succ_cons, List.drop_zero]
 have z1 := tt
 go_wp2_with (first
  | (clear z1; refine st_new rfl (rn_alloc H rfl info_id16) ?_; clear H; intro b9 w5 hb9 H; have z2 := tt))
 have hg9 := Hh hb9
 have H5 := Hh H
 clear H
 refine region_grow 3 (by kernel_rfl) (by kernel_rfl) (by kernel_rfl) [.val (.slice (some ⟨b9, 0, none⟩) 16 16), .val (.slice (some ⟨bp, op, none⟩) 56 cp), .val (.slice (some ⟨bp, op + 8, none⟩) 16 (cp - 8))] rfl ?_
 have z3 := tt
 try go_frame
 repeat (first
  | (clear z3; refine sp_run (v := .slice (some ⟨b9, 0, none⟩) 16 16) rfl (fun w' hw' _ => rn_sliceAll rfl rfl size_u8 rfl (by omega)) ?_; try go_frame; have z4 := tt)
  | (clear z4; refine sp_run (v := .slice (some ⟨bp, op + 8, none⟩) 16 (cp - 8)) rfl (fun w' hw' _ => rn_part (l := 8) (h := 24) rfl rfl size_u8 rfl (by exact .yes rfl) (by exact .yes rfl) (by omega) (by omega) hpc (by omega) rfl) ?_; try go_frame; have z5 := tt)
  | (refine sp_val (fun w' hw' hF => ?_) ⟨_, rfl, nB rfl⟩ ?_
     · go_big_quiet_step (fail)
       exact rfl
     try go_frame))
 refine sp_nil ?_
 intro w6 hw' hF
 have H := H5.out.call0 hw'
 clear hw' hF H5
 have hid2 := Hh (hidb.out w6 (H.end0 (by have := hg9.out; simp; omega)))
 simp only [List.drop_succ_cons, List.drop_zero]
 have z1 := tt
 go_wp2_with (first
  | (clear z1; refine st_both rfl (rn_copy (sv := .slice (some ⟨bp, op + 8, none⟩) 16 (cp - 8)) (xs := u8s id) (k := 16) H rfl rfl size_u8 rfl rfl (by have h := hid2.out; rw [BytesAt, hid16.out] at h; exact h) (by rw [length_ints, hid16.out]) .head (by simp) (oneCell_ints _ _) rfl) ?_; clear H; intro w7 H; rw [hk16.out, hsp16.out] at H; have z2 := tt)
  | (clear z2; refine st_val rfl (rn_idxSlN (j := 3) rfl rfl size_u8 rfl rfl rfl (by omega) rfl) ?_; have z3 := tt)
  | (clear z3; refine st_val rfl (rn_cell rfl rfl rfl rfl (c3.out _ (H.end0 (by have := hg9.out; simp; omega)))) ?_; have z4 := tt))
 have H7 := Hh H
 have c_id : Hid (∀ w', Own w7 w' [] → ∀ j v, (u8s id)[j]? = some v → w'.cell? ⟨b9, 0 + j, none⟩ = some v) := fun w' h j v hj => by rw [(H7.out.call0 h).cell (.head _), Nat.zero_add]; exact hj
 have hw7 : Hid (∀ w', Own w7 w' [] → Own w w' []) := fun w' h => (H7.out.call0 h).end0 (by have := hg9.out; simp; omega)
 clear H hid2 c3 hidb hk16 hsp16
 refine region_effF 14 (by kernel_rfl) (by kernel_rfl) (by kernel_rfl) [.val (.agg (u8s id).toArray), .val (.int .i64 q), .val (.int .i64 k), .val (.slice pm ml cm), .val (.slice (some ⟨g, o, none⟩) n c), .val (.int .i64 (36 + 32 * (C : Int))), .val (.int .i64 (4 + (36 + 32 * (C : Int)))), .val (.slice (some ⟨g, o + 4, none⟩) (36 + 32 * C) (c - 4)), .val (.tuple #[.agg (u8s K).toArray, .int .i64 0]), .val (.tuple #[.agg (u8s K).toArray, .int .i64 0]), .val (.agg (u8s K).toArray), .val (.int .i64 0), .rel (CellN w7.heap.size 32 24), .eff (SeT 32 24) (fun _ _ => True)] rfl ?_ (by kernel_rfl) (StS w7 11 (u8s K) 24) (Own.refl w7) StS.m [11] 13 (fun s a' w' d v h1 h2 => StS.p s a' w' d v h1 h2) (by kernel_rfl) ?_
 · simp only [eAll, eRow, Se.pres, or_true, true_and, and_true, implies_true]
   exact Or.inr (Or.inr CellN.presS)
 have z3 := tt
 try go_frame
 repeat (first
  | (clear z3; refine sf_run (v := .agg (u8s id).toArray) rfl (fun w' hw' _ => by obtain ⟨s, a', hs⟩ := hw'; exact rn_cells rfl rfl rfl rfl hszi.out (c_id.out w' (StS.own s hs))) ?_; try go_frame; have z4 := tt)
  | (clear z4; refine sf_run (v := .slice (some ⟨g, o + 4, none⟩) (36 + 32 * C) (c - 4)) rfl (fun w' _ _ => rn_part (l := 4) (h := 40 + 32 * C) rfl rfl size_u8 rfl (by exact .yes rfl) (by exact .yes (by omega)) (by omega) (by omega) hcc (by omega) rfl) ?_; try go_frame; have z5 := tt)
  | (clear z5; refine sf_callN (v := .tuple #[.agg (u8s K).toArray, .int .i64 0]) (args := #[.agg (u8s id).toArray, .int .i64 q, .int .i64 k, .slice pm ml cm, .slice (some ⟨g, o + 4, none⟩) (36 + 32 * C) (c - 4)]) rfl rfl (by simp [Act.eval]) Tryz.func56 (by kernel_rfl) (by kernel_rfl) (fun w' hw' _ => by obtain ⟨s, a', hs⟩ := hw'; exact hcan.out w' (hw7.out w' (StS.own s hs))) ?_; try go_frame; have z6 := tt)
  | (clear z6; refine sf_rel CellN.mono rfl (fun w' hw' _ => by obtain ⟨s, a', hs⟩ := hw'; exact cellN_alloc rfl info_hash rfl (StS.own s hs).size) ?_; intro v11; try go_frame; have z7 := tt)
  | (refine sf_val (fun w' hw' hF => ?_) ⟨_, rfl, nB rfl⟩ ?_
     · go_big_quiet_step (fail)
       exact rfl
     try go_frame))
 refine sf_store rfl rfl (fun a' w' hag hS hF => ?_) ?_
 · obtain ⟨g, cs, e2, q1, q2, q3⟩ := hF.2 _ rfl (mE (by kernel_rfl))
   subst e2
   exact (rn_storeAll (vs := u8s K) (Own.one q3) rfl rfl rfl (size_hashL hK.out) .head (by rw [length_ints, q2]; exact hK.out) (oneCell_ints _ _)).imp fun w2 h => ⟨h.1, ⟨g, cs, _, q3, h.2, by rw [length_ints]; exact hK.out⟩, (Own.young hS h.2 q1 (by simp)), g, hag 11 (mE (by kernel_rfl)), q1, h.2.here _ _ _ (.head _)⟩
 refine sf_nil ?_
 intro w8 hS hF
 obtain ⟨hw', b11, e2, hg, hgc⟩ := hS
 have e2' : v11 = .pointer (some ⟨b11, 0, none⟩) := e2
 subst e2'
 have H := (H7.out.call0 hw').adopt hgc (fun hm => by
  simp only [List.map_cons, List.map_nil, List.mem_cons, List.not_mem_nil, or_false] at hm
  have := H7.out.lt (.head _); omega)
 have hg11 := Hh (Nat.le_trans H7.out.size hg)
 clear hw' hF hgc e2 hg c_id hw7 H7 hcan
 simp only [List.drop_succ_cons, List.drop_zero]
 have z1 := tt
 go_wp2_with (first
  | (clear z1; refine st_val rfl (rn_loadAll (cs := u8s id) H rfl rfl (.tail _ (.head _)) rfl rfl hszi.out) ?_; have z2 := tt)
  | (clear z2; refine st_val rfl (rn_loadAll (cs := u8s K) H rfl rfl (.head _) rfl rfl (size_hashL hK.out)) ?_; have z3 := tt)
  | (clear z3; go_at_call 33; refine (hlf.out _).mono ?_; rintro e w12 ⟨rfl, h3⟩; replace H := H.call0 h3; clear h3; have z4 := tt)
  | (clear z4; refine st_new rfl (rn_alloc H rfl info_hash) ?_; clear H; intro b14 w13 hb14 H; have z5 := tt)
  | (clear z5; refine st_skip rfl (rn_storeAll (vs := u8s (X 0)) H rfl rfl rfl (size_hashL (hXl.out 0)) .head (by rw [length_ints, length_ints, hXl.out]; rfl) (oneCell_ints _ _)) ?_; clear H; intro w14 H; have z6 := tt))
 have hg14 := Hh hb14
 clear hb9 hb14 hlf
 go_loopw [13, 15, 16] (fun v13 v15 _ wr => ∃ (i : Nat) (z : Int), i ≤ 5 ∧ v13 = .int .i64 (((q + 32) / 2 ^ i : Nat) : Int) ∧ v15 = .int .i64 z ∧ z = 44 + 32 * (C : Int) + 32 * (i : Int) ∧ Own w wr [(b14, u8s (X i), 24), (b11, u8s K, 24), (b9, u8s id, 22)]) (fun v13 _ _ _ => (intOf v13).toNat)
 case atStart => exact ⟨0, _, by omega, by rw [Nat.pow_zero, Nat.div_one]; rfl, rfl, by omega, H⟩
 case round =>
  clear H
  obtain ⟨i, z, hi, rfl, rfl, rfl, H⟩ := hrel
  by_cases hin5 : i < 5
  · obtain ⟨g1, g2, g3⟩ := path_r hqn hin5
    have hand := and_one _ g2
    have hyc1 : Hid (∀ w', Own w w' [] → BytesAt w' (.slice (some ⟨g, o + (44 + 32 * C + 32 * i), none⟩) 32 (c - (44 + 32 * C + 32 * i))) (Y i)) := fun w' h => hyc.out w' i hin5 h
    have hyl := Hh (hYl.out i)
    have hyb := Hh (hYb.out i)
    have hxl := Hh (hXl.out i)
    have hxb := Hh (hXb.out i)
    have hxl' := Hh (hXl.out (i + 1))
    have hc1 := Hh (hX1.out i)
    have hc2 := Hh (hX2.out i)
    obtain ⟨m, hm0⟩ : ∃ m, m = (q + 32) / 2 ^ i := ⟨_, rfl⟩
    rw [← hm0] at g1 g2 g3 hand hc1 hc2 ⊢
    have g3' := Hh g3
    obtain ⟨Yi, hYi⟩ : ∃ y, y = Y i := ⟨_, rfl⟩
    obtain ⟨Xi, hXi⟩ : ∃ y, y = X i := ⟨_, rfl⟩
    obtain ⟨Xn, hXn⟩ : ∃ y, y = X (i + 1) := ⟨_, rfl⟩
    rw [← hYi] at hyc1 hyl hyb hc1 hc2
    rw [← hXi] at H hxl hxb hc1 hc2
    rw [← hXn] at hxl' hc1 hc2
    have hXn' := Hh hXn
    clear hYi hXi hXn hm0 g3 hyc
    by_cases hodd : m % 2 = 1
    · have hand1 : bits .and .i64 (m : Int) 1 = 1 := by rw [hand]; omega
      have nd : Hid (∀ w', Calls Tryz.prog 35 #[.agg (u8s id).toArray, .int .i64 ((m : Int) / 2), .agg (u8s Yi).toArray, .agg (u8s Xi).toArray] w' fun e w'' => e = .returned (.agg (u8s Xn).toArray) ∧ Own w' w'' []) := fun w' => by
       rw [← hc1.out hodd]
       have h2 := hin.out w' (m / 2) _ _ (by omega) hyl.out hxl.out hyb.out hxb.out
       rw [show ((m / 2 : Nat) : Int) = (m : Int) / 2 by omega] at h2
       exact h2
      clear hand hc1 hc2 hin hodd hxb hyb
      go_wp2_with (refine st_new rfl (rn_alloc H rfl info_hash) ?_; clear H; intro b16 w15 hb16 H)
      have hg16 := Hh hb16
      have H15 := Hh H
      clear H
      refine region_grow 6 (by kernel_rfl) (by kernel_rfl) (by kernel_rfl) [.val (.slice (some ⟨b16, 0, none⟩) 32 32), .val (.slice (some ⟨g, o, none⟩) n c), .val (.int .i64 (44 + 32 * (C : Int) + 32 * (i : Int))), .val (.int .i64 (44 + 32 * (C : Int) + 32 * (i : Int))), .val (.int .i64 (44 + 32 * (C : Int) + 32 * (i : Int) + 32)), .val (.slice (some ⟨g, o + (44 + 32 * C + 32 * i), none⟩) 32 (c - (44 + 32 * C + 32 * i)))] rfl ?_
      have z3 := tt
      try go_frame
      repeat (first
       | (clear z3; refine sp_run (v := .slice (some ⟨b16, 0, none⟩) 32 32) rfl (fun w' hw' _ => rn_sliceAll rfl rfl size_u8 rfl (by omega)) ?_; try go_frame; have z4 := tt)
       | (clear z4; refine sp_run (v := .slice (some ⟨g, o + (44 + 32 * C + 32 * i), none⟩) 32 (c - (44 + 32 * C + 32 * i))) rfl (fun w' hw' _ => rn_part (l := 44 + 32 * C + 32 * i) (h := 76 + 32 * C + 32 * i) rfl rfl size_u8 rfl (by exact .yes (by omega)) (by exact .yes (by omega)) (by omega) (by omega) hcc (by omega) rfl) ?_; try go_frame; have z5 := tt)
       | (refine sp_val (fun w' hw' hF => ?_) ⟨_, rfl, nB rfl⟩ ?_
          · go_big_quiet_step (fail)
            exact rfl
          try go_frame))
      refine sp_nil ?_
      intro w16 hw' hF
      have H := H15.out.call0 hw'
      clear hw' hF H15
      have hy2 := Hh (hyc1.out w16 (H.end0 (by have := hg9.out; have := hg11.out; have := hg14.out; have := hg16.out; simp; omega)))
      simp only [List.drop_succ_cons, List.drop_zero]
      have hk32 : Hid ((u8s Yi).take 32 = u8s Yi) := List.take_of_length_le (by rw [length_ints, hyl.out]; omega)
      have hsp : Hid (splice (u8s (List.replicate 32 0)) 0 (u8s Yi) = u8s Yi) := by show _ = _; unfold splice; rw [List.take_zero, List.nil_append, List.drop_of_length_le (by rw [length_ints, length_ints, hyl.out]; simp), List.append_nil]
      have z1 := tt
      go_wp2_with (first
       | (clear z1; refine st_both rfl (rn_copy (sv := .slice (some ⟨g, o + (44 + 32 * C + 32 * i), none⟩) 32 (c - (44 + 32 * C + 32 * i))) (xs := u8s Yi) (k := 32) H rfl rfl size_u8 rfl rfl (by have h := hy2.out; rw [BytesAt, hyl.out] at h; exact h) (by rw [length_ints, hyl.out]) .head (by simp) (oneCell_ints _ _) rfl) ?_; clear H; intro w17 H; rw [hk32.out, hsp.out] at H; have z2 := tt)
       | (clear z2; refine st_val rfl (rn_loadAll (cs := u8s id) H rfl rfl (.tail _ (.tail _ (.tail _ (.head _)))) rfl rfl hszi.out) ?_; have z3 := tt)
       | (clear z3; refine st_val rfl (rn_loadAll (cs := u8s Yi) H rfl rfl (.head _) rfl rfl (size_hashL hyl.out)) ?_; have z4 := tt)
       | (clear z4; refine st_val rfl (rn_loadAll (cs := u8s Xi) H rfl rfl (.tail _ (.head _)) rfl rfl (size_hashL hxl.out)) ?_; have z5 := tt)
       | (clear z5; go_at_call 35; refine (nd.out _).mono ?_; rintro e w18 ⟨rfl, h3⟩; replace H := H.call0 h3; clear h3; have z6 := tt)
       | (clear z6; refine st_skip rfl (rn_storeAll (vs := u8s Xn) H rfl rfl rfl (size_hashL hxl'.out) (.tail .head) (by rw [length_ints, length_ints, hxl'.out, hxl.out]) (oneCell_ints _ _)) ?_; clear H; intro w19 H; have z7 := tt))
      refine ⟨⟨i + 1, _, by omega, ?_, rfl, by omega, by rw [← hXn'.out]; exact H.pop hg16.out⟩, ?_⟩
      · rw [← g3'.out]; go_num
      · simp [intOf]; omega
    · have hand1 : bits .and .i64 (m : Int) 1 = 0 := by rw [hand]; omega
      have nd : Hid (∀ w', Calls Tryz.prog 35 #[.agg (u8s id).toArray, .int .i64 ((m : Int) / 2), .agg (u8s Xi).toArray, .agg (u8s Yi).toArray] w' fun e w'' => e = .returned (.agg (u8s Xn).toArray) ∧ Own w' w'' []) := fun w' => by
       rw [← hc2.out hodd]
       have h2 := hin.out w' (m / 2) _ _ (by omega) hxl.out hyl.out hxb.out hyb.out
       rw [show ((m / 2 : Nat) : Int) = (m : Int) / 2 by omega] at h2
       exact h2
      clear hand hc1 hc2 hin hodd hxb hyb
      go_wp2_with (refine st_new rfl (rn_alloc H rfl info_hash) ?_; clear H; intro b16 w15 hb16 H)
      have hg16 := Hh hb16
      have H15 := Hh H
      clear H
      refine region_grow 6 (by kernel_rfl) (by kernel_rfl) (by kernel_rfl) [.val (.slice (some ⟨b16, 0, none⟩) 32 32), .val (.slice (some ⟨g, o, none⟩) n c), .val (.int .i64 (44 + 32 * (C : Int) + 32 * (i : Int))), .val (.int .i64 (44 + 32 * (C : Int) + 32 * (i : Int))), .val (.int .i64 (44 + 32 * (C : Int) + 32 * (i : Int) + 32)), .val (.slice (some ⟨g, o + (44 + 32 * C + 32 * i), none⟩) 32 (c - (44 + 32 * C + 32 * i)))] rfl ?_
      have z3 := tt
      try go_frame
      repeat (first
       | (clear z3; refine sp_run (v := .slice (some ⟨b16, 0, none⟩) 32 32) rfl (fun w' hw' _ => rn_sliceAll rfl rfl size_u8 rfl (by omega)) ?_; try go_frame; have z4 := tt)
       | (clear z4; refine sp_run (v := .slice (some ⟨g, o + (44 + 32 * C + 32 * i), none⟩) 32 (c - (44 + 32 * C + 32 * i))) rfl (fun w' hw' _ => rn_part (l := 44 + 32 * C + 32 * i) (h := 76 + 32 * C + 32 * i) rfl rfl size_u8 rfl (by exact .yes (by omega)) (by exact .yes (by omega)) (by omega) (by omega) hcc (by omega) rfl) ?_; try go_frame; have z5 := tt)
       | (refine sp_val (fun w' hw' hF => ?_) ⟨_, rfl, nB rfl⟩ ?_
          · go_big_quiet_step (fail)
            exact rfl
          try go_frame))
      refine sp_nil ?_
      intro w16 hw' hF
      have H := H15.out.call0 hw'
      clear hw' hF H15
      have hy2 := Hh (hyc1.out w16 (H.end0 (by have := hg9.out; have := hg11.out; have := hg14.out; have := hg16.out; simp; omega)))
      simp only [List.drop_succ_cons, List.drop_zero]
      have hk32 : Hid ((u8s Yi).take 32 = u8s Yi) := List.take_of_length_le (by rw [length_ints, hyl.out]; omega)
      have hsp : Hid (splice (u8s (List.replicate 32 0)) 0 (u8s Yi) = u8s Yi) := by show _ = _; unfold splice; rw [List.take_zero, List.nil_append, List.drop_of_length_le (by rw [length_ints, length_ints, hyl.out]; simp), List.append_nil]
      have z1 := tt
      go_wp2_with (first
       | (clear z1; refine st_both rfl (rn_copy (sv := .slice (some ⟨g, o + (44 + 32 * C + 32 * i), none⟩) 32 (c - (44 + 32 * C + 32 * i))) (xs := u8s Yi) (k := 32) H rfl rfl size_u8 rfl rfl (by have h := hy2.out; rw [BytesAt, hyl.out] at h; exact h) (by rw [length_ints, hyl.out]) .head (by simp) (oneCell_ints _ _) rfl) ?_; clear H; intro w17 H; rw [hk32.out, hsp.out] at H; have z2 := tt)
       | (clear z2; refine st_val rfl (rn_loadAll (cs := u8s id) H rfl rfl (.tail _ (.tail _ (.tail _ (.head _)))) rfl rfl hszi.out) ?_; have z3 := tt)
       | (clear z3; refine st_val rfl (rn_loadAll (cs := u8s Xi) H rfl rfl (.tail _ (.head _)) rfl rfl (size_hashL hxl.out)) ?_; have z4 := tt)
       | (clear z4; refine st_val rfl (rn_loadAll (cs := u8s Yi) H rfl rfl (.head _) rfl rfl (size_hashL hyl.out)) ?_; have z5 := tt)
       | (clear z5; go_at_call 35; refine (nd.out _).mono ?_; rintro e w18 ⟨rfl, h3⟩; replace H := H.call0 h3; clear h3; have z6 := tt)
       | (clear z6; refine st_skip rfl (rn_storeAll (vs := u8s Xn) H rfl rfl rfl (size_hashL hxl'.out) (.tail .head) (by rw [length_ints, length_ints, hxl'.out, hxl.out]) (oneCell_ints _ _)) ?_; clear H; intro w19 H; have z7 := tt))
      refine ⟨⟨i + 1, _, by omega, ?_, rfl, by omega, by rw [← hXn'.out]; exact H.pop hg16.out⟩, ?_⟩
      · rw [← g3'.out]; go_num
      · simp [intOf]; omega
  · obtain rfl : i = 5 := by omega
    have hend := path_end hqn
    rw [hend]
    clear hend hyc hin hX1 hX2
    have hx5 := Hh (hXl.out 5)
    have hx5b := Hh (hXb.out 5)
    obtain ⟨X5, hX5⟩ : ∃ y, y = X 5 := ⟨_, rfl⟩
    rw [← hX5] at H hx5 hx5b hAN'
    clear hX5
    have HW := Hh H
    have hp0 : Hid (∀ w', Own wr w' [] → Own w w' []) := fun w' h => (HW.out.call0 h).end0 (by have := hg9.out; have := hg11.out; have := hg14.out; simp; omega)
    clear H
    go_wp2_with fail
    by_cases hxr : X5 = RT
    · have eZ : Hid (∀ w', Own wr w' [] → Calls Tryz.prog 11 #[.slice (some ⟨b14, 0, none⟩) 32 32, .slice (some ⟨bp, op + 24, none⟩) 32 (cp - 24)] w' fun e w'' => e = .returned (.bool true) ∧ Own w' w'' []) := fun w' h => by
       have h2 := hsame.out w' _ X5 (hp0.out w' h) hx5b.out ((HW.out.call0 h).litM (.head _) hx5.out.symm)
       rwa [decide_eq_true hxr] at h2
      have hAN2 : Hid (ANS = 0) := hAN'.out.trans (by simp [hxr])
      clear hsame hxr hAN'
      refine region_grow 5 (by kernel_rfl) (by kernel_rfl) (by kernel_rfl) [.val (.slice (some ⟨b14, 0, none⟩) 32 32), .val (.slice (some ⟨bp, op, none⟩) 56 cp), .val (.slice (some ⟨bp, op + 24, none⟩) 32 (cp - 24)), .val (.bool true), .val (.bool false)] rfl ?_
      have z3 := tt
      try go_frame
      repeat (first
       | (clear z3; refine sp_run (v := .slice (some ⟨b14, 0, none⟩) 32 32) rfl (fun w' hw' _ => rn_sliceAll rfl rfl size_u8 rfl (by omega)) ?_; try go_frame; have z4 := tt)
       | (clear z4; refine sp_run (v := .slice (some ⟨bp, op + 24, none⟩) 32 (cp - 24)) rfl (fun w' hw' _ => rn_part (l := 24) (h := 56) rfl rfl size_u8 rfl (by exact .yes rfl) (by exact .no _) (by omega) (by omega) hpc rfl rfl) ?_; try go_frame; have z5 := tt)
       | (clear z5; refine sp_callN (v := .bool true) (args := #[.slice (some ⟨b14, 0, none⟩) 32 32, .slice (some ⟨bp, op + 24, none⟩) 32 (cp - 24)]) rfl rfl (by simp [Act.eval]) Tryz.func11 (by kernel_rfl) (by kernel_rfl) (fun w' hw' hF => eZ.out w' hw') ?_; try go_frame; have z6 := tt)
       | (refine sp_val (fun w' hw' hF => ?_) ⟨_, rfl, nB rfl⟩ ?_
          · go_big_quiet_step (fail)
            exact rfl
          try go_frame))
      refine sp_nil ?_
      intro w20 hw' hF
      have HE := Hh (hp0.out w20 hw')
      clear hw' hF
      simp only [List.drop_succ_cons, List.drop_zero]
      go_wp2_with fail
      go_ret
      exact ⟨by rw [hAN2.out]; rfl, HE.out⟩
    · have eZ : Hid (∀ w', Own wr w' [] → Calls Tryz.prog 11 #[.slice (some ⟨b14, 0, none⟩) 32 32, .slice (some ⟨bp, op + 24, none⟩) 32 (cp - 24)] w' fun e w'' => e = .returned (.bool false) ∧ Own w' w'' []) := fun w' h => by
       have h2 := hsame.out w' _ X5 (hp0.out w' h) hx5b.out ((HW.out.call0 h).litM (.head _) hx5.out.symm)
       rwa [decide_eq_false hxr] at h2
      have hAN2 : Hid (ANS = 3) := hAN'.out.trans (by simp [hxr])
      clear hsame hxr hAN'
      refine region_grow 5 (by kernel_rfl) (by kernel_rfl) (by kernel_rfl) [.val (.slice (some ⟨b14, 0, none⟩) 32 32), .val (.slice (some ⟨bp, op, none⟩) 56 cp), .val (.slice (some ⟨bp, op + 24, none⟩) 32 (cp - 24)), .val (.bool false), .val (.bool true)] rfl ?_
      have z3 := tt
      try go_frame
      repeat (first
       | (clear z3; refine sp_run (v := .slice (some ⟨b14, 0, none⟩) 32 32) rfl (fun w' hw' _ => rn_sliceAll rfl rfl size_u8 rfl (by omega)) ?_; try go_frame; have z4 := tt)
       | (clear z4; refine sp_run (v := .slice (some ⟨bp, op + 24, none⟩) 32 (cp - 24)) rfl (fun w' hw' _ => rn_part (l := 24) (h := 56) rfl rfl size_u8 rfl (by exact .yes rfl) (by exact .no _) (by omega) (by omega) hpc rfl rfl) ?_; try go_frame; have z5 := tt)
       | (clear z5; refine sp_callN (v := .bool false) (args := #[.slice (some ⟨b14, 0, none⟩) 32 32, .slice (some ⟨bp, op + 24, none⟩) 32 (cp - 24)]) rfl rfl (by simp [Act.eval]) Tryz.func11 (by kernel_rfl) (by kernel_rfl) (fun w' hw' hF => eZ.out w' hw') ?_; try go_frame; have z6 := tt)
       | (refine sp_val (fun w' hw' hF => ?_) ⟨_, rfl, nB rfl⟩ ?_
          · go_big_quiet_step (fail)
            exact rfl
          try go_frame))
      refine sp_nil ?_
      intro w20 hw' hF
      have HE := Hh (hp0.out w20 hw')
      clear hw' hF
      simp only [List.drop_succ_cons, List.drop_zero]
      go_wp2_with fail
      go_ret
      exact ⟨by rw [hAN2.out]; rfl, HE.out⟩
theorem rver_any (w : World) (pv mv sv : Value) (pub msg sig : List Int) (hp : Old w pv pub) (hpb : IsBytes pub) (hm : Old w mv msg) (hmb : IsBytes msg) (hml : msg.length ≤ 90000) (hs : Old w sv sig) (hsb : IsBytes sig) :
 Calls Tryz.prog 20 #[pv, mv, sv] w fun e w' => e = .returned (.int .i64 (verL pub msg sig)) ∧ Own w w' [] := by
 unfold verL
 by_cases h0 : widthL pub = 0
 · rw [if_pos h0]
   exact rver_bad w pv mv sv pub hp hpb h0
 · rw [if_neg h0]
   have hk : widthL pub = 1 ∨ widthL pub = 2 ∨ widthL pub = 4 ∨ widthL pub = 8 := ((widthV_cases _ _ _).resolve_left h0).2.2.1
   unfold verK
   by_cases hne : sig.length = sizeOfL (widthL pub)
   · rw [if_pos hne]
     by_cases hok : vOk (widthL pub) sig = true
     · rw [if_pos hok]
       by_cases hE0 : candE (widthL pub) (vPart (widthL pub) sig) = 0
       · exact rver_main w pv mv sv pub sig hp hpb hs _ hk rfl hsb msg hm hmb hml hne hok hE0
       · exact rver_none w pv mv sv pub sig hp hpb hs _ hk rfl hsb msg hm hmb hml hne hok hE0
     · rw [if_neg hok]
       exact rver_hd w pv mv sv pub sig hp hpb hs _ hk rfl hsb hne (by simpa using hok)
   · rw [if_neg hne]
     exact rver_len w pv mv sv pub sig hp hpb hs _ hk rfl hne
end Go.Proofs.YtfihlmnbonnekaaGreat
