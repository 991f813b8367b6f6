/- ots: the document's candidate of a wrong length, or of a wrong typecode. -/
import Derived.Test.YtfihlmnbonnekaaGreatMe
namespace Go.Proofs.YtfihlmnbonnekaaGreat
open Go.RowKit
set_option maxHeartbeats 32000000
set_option maxRecDepth 100000 in
theorem refCand_len (w : World) (id : List Int) (q k : Nat) (hk : k = 1 ∨ k = 2 ∨ k = 4 ∨ k = 8) (mv sv : Value) (sig : List Int) (hs : Old w sv sig) (hne : sig.length ≠ 36 + 32 * chN k) :
 Calls Tryz.prog 56 #[.agg (u8s id).toArray, .int .i64 q, .int .i64 k, mv, sv] w fun e w' => e = .returned (.tuple #[.agg (u8s (List.replicate 32 0)).toArray, .int .i64 3]) ∧ Own w w' [] := by
 have H := Own.refl w
 have hch := Hh (fun w' => refChains_k w' k hk)
 obtain ⟨hC0, hC1⟩ := chN_le k
 obtain ⟨C, hC⟩ : ∃ C, C = chN k := ⟨_, rfl⟩
 rw [← hC] at hch hC0 hC1 hne
 obtain ⟨ps, cs, rfl⟩ := hs.shape
 obtain ⟨sn, hsn⟩ : ∃ n, n = sig.length := ⟨_, rfl⟩
 rw [← hsn] at hne ⊢
 clear hs hsn hk hC
 have hne1 : ((sn : Int) == 36 + 32 * (C : Int)) = false := by rw [beq_eq_false_iff_ne]; omega
 have hne3 : ((sn : Int) != 36 + 32 * (C : Int)) = true := by unfold bne; rw [hne1]; rfl
 go_enter Tryz.func56, Tryz.ntmps56
 have z1 := tt
 go_wp2_with (first
  | (clear z1; refine st_new rfl (rn_box (cs := u8s id) H rfl rfl rfl) ?_; clear H; intro b5 w1 hb5 H; have z2 := tt)
  | (clear z2; refine st_new rfl (rn_alloc H rfl info_hash) ?_; clear H; intro b10 w3 hb10 H; have z3 := tt)
  | (clear z3; go_at_call 54; refine (hch.out _).mono ?_; rintro e w4 ⟨rfl, h3⟩; replace H := H.call0 h3; clear h3))
 have H4 := Hh H
 clear H
 refine region_grow 15 (by kernel_rfl) (by kernel_rfl) (by kernel_rfl) [.val (.slice ps sn cs), .val (.int .i64 sn), .val (.int .i64 C), .val (.int .i64 (32 * (C : Int))), .val (.int .i64 (36 + 32 * (C : Int))), .val (.bool true), .val (.bool true), .val undef, .val undef, .val undef, .val undef, .val undef, .val undef, .val undef, .val (.bool true)] rfl ?_
 try go_frame
 repeat (first
  | (refine sp_skip rfl ?_; try go_frame)
  | (refine sp_val (fun w' hw' hF => ?_) ⟨_, rfl, nB rfl⟩ ?_
     · go_big_quiet_step (fail)
       first
          | exact rfl
          | (simp only [hne3]; exact rfl)
     try go_frame))
 refine sp_nil ?_
 intro w5 hw' hF
 have H := H4.out.call0 hw'
 clear hw' hF H4
 simp only [List.drop_succ_cons, List.drop_zero]
 go_wp2_with (refine st_skip rfl (rn_storeAll (vs := u8s (List.replicate 32 0)) H rfl rfl rfl (by kernel_rfl) .head (by kernel_rfl) (oneCell_ints _ _)) ?_; clear H; intro w9 H)
 refine fin_cell2 rfl H rfl (.head _) rfl rfl (by kernel_rfl) rfl rfl ⟨rfl, ?_⟩
 exact H.end0 (by simp; omega)
set_option maxRecDepth 100000 in
theorem refCand_code (w : World) (id : List Int) (q k : Nat) (hk : k = 1 ∨ k = 2 ∨ k = 4 ∨ k = 8) (mv sv : Value) (sig : List Int) (hs : Old w sv sig) (hsb : IsBytes sig) (hl : sig.length = 36 + 32 * chN k) (hne : sig.take 4 ≠ numB (cdN k) 4) :
 Calls Tryz.prog 56 #[.agg (u8s id).toArray, .int .i64 q, .int .i64 k, mv, sv] w fun e w' => e = .returned (.tuple #[.agg (u8s (List.replicate 32 0)).toArray, .int .i64 3]) ∧ Own w w' [] := by
 have H := Own.refl w
 have hch := Hh (fun w' => refChains_k w' k hk)
 have hcd := Hh (fun w' => refCode_any w' k hk)
 obtain ⟨hC0, hC1⟩ := chN_le k
 obtain ⟨b, off, cs, rfl, hsc⟩ := hs.at0 (by omega)
 have hO4 : Hid (∀ w' L, Own w w' L → (∀ k ∈ L.map (·.1), w.heap.size ≤ k) → Old w' (.slice (some ⟨b, off + 0, none⟩) 4 (cs - 0)) (sig.take 4)) := fun w' L h hn => by
  have h1 := (hs.mv h hn).part (l := 0) (m := 4) (d := cs - 0) rfl (by omega) (by omega) (by omega)
  rw [List.drop_zero] at h1
  exact h1
 have ht4 := Hh (isBytes_take hsb 4)
 obtain ⟨cd, hcd1⟩ : ∃ c, c = cdN k := ⟨_, rfl⟩
 rw [← hcd1] at hcd hne
 have hnum : Hid (∀ w', Calls Tryz.prog 42 #[.int .u64 cd, .int .i64 4] w' fun e w'' => ∃ r, e = .returned r ∧ BIn (numB cd 4) w'' r ∧ Own w' w'' []) := fun w' => refNum_any w' cd 4 (by omega) (by omega)
 have hnb := Hh (isBytes_numB cd 4)
 obtain ⟨A, hA⟩ : ∃ a, a = numB cd 4 := ⟨_, rfl⟩
 obtain ⟨T, hT⟩ : ∃ a, a = sig.take 4 := ⟨_, rfl⟩
 rw [← hA] at hnum hnb hne
 rw [← hT] at hO4 ht4 hne
 have hsame : Hid (∀ w' v1 v2, Old w' v1 T → BIn A w' v2 → Calls Tryz.prog 11 #[v1, v2] w' fun e w'' => e = .returned (.bool false) ∧ Own w' w'' []) := fun w' v1 v2 h1 h2 => by
  have h := same_any w' v1 v2 T A h1.1 h2.2.1 ht4.out hnb.out
  rw [decide_eq_false hne] at h
  exact h
 obtain ⟨C, hC⟩ : ∃ C, C = chN k := ⟨_, rfl⟩
 rw [← hC] at hch hC0 hC1 hl
 obtain ⟨sn, hsn⟩ : ∃ n, n = sig.length := ⟨_, rfl⟩
 rw [← hsn] at hl hsc ⊢
 clear hs hsn hk hC hsb hT hA hcd1 hne
 have hne1 : ((sn : Int) == 36 + 32 * (C : Int)) = true := by rw [beq_iff_eq]; omega
 have hne3 : ((sn : Int) != 36 + 32 * (C : Int)) = false := by unfold bne; rw [hne1]; rfl
 have hs4 : 4 ≤ sn := by omega
 clear hl
 go_enter Tryz.func56, Tryz.ntmps56
 have z1 := tt
 go_wp2_with (first
  | (clear z1; refine st_new rfl (rn_box (cs := u8s id) H rfl rfl rfl) ?_; clear H; intro b5 w1 hb5 H; have z2 := tt)
  | (clear z2; refine st_new rfl (rn_alloc H rfl info_hash) ?_; clear H; intro b10 w3 hb10 H; have z3 := tt)
  | (clear z3; go_at_call 54; refine (hch.out _).mono ?_; rintro e w4 ⟨rfl, h3⟩; replace H := H.call0 h3; clear h3))
 have H4 := Hh H
 clear H
 refine region_grow 15 (by kernel_rfl) (by kernel_rfl) (by kernel_rfl) [.val (.slice (some ⟨b, off, none⟩) sn cs), .val (.int .i64 sn), .val (.int .i64 C), .val (.int .i64 (32 * (C : Int))), .val (.int .i64 (36 + 32 * (C : Int))), .val (.bool false), .val (.bool false), .val (.slice (some ⟨b, off, none⟩) sn cs), .val (.slice (some ⟨b, off + 0, none⟩) 4 (cs - 0)), .val (.int .i64 k), .val (.int .u64 cd), .rel (BIn A), .val (.bool false), .val (.bool true), .val (.bool true)] rfl ?_
 have z3 := tt
 try go_frame
 repeat (first
  | (clear z3; refine sp_run (v := .slice (some ⟨b, off + 0, none⟩) 4 (cs - 0)) rfl (fun w' hw' _ => rn_part rfl rfl size_u8 rfl (by exact .no _) (by exact .yes rfl) (by omega) hs4 hsc rfl rfl) ?_; try go_frame; have z4 := tt)
  | (clear z4; refine sp_callN (v := .int .u64 cd) (args := #[.int .i64 k]) rfl rfl (by simp [Act.eval]) Tryz.func43 (by kernel_rfl) (by kernel_rfl) (fun w' _ _ => hcd.out w') ?_; try go_frame; have z5 := tt)
  | (clear z5; refine sp_callR (args := #[.int .u64 cd, .int .i64 4]) (BIn.mono _) rfl rfl (by simp [Act.eval]) Tryz.func42 (by kernel_rfl) (by kernel_rfl) (fun w' hw' _ => hnum.out w') ?_; intro v30; try go_frame; have z6 := tt)
  | (clear z6; refine sp_callN (v := .bool false) (args := #[.slice (some ⟨b, off + 0, none⟩) 4 (cs - 0), v30]) rfl rfl (by simp [Act.eval]) Tryz.func11 (by kernel_rfl) (by kernel_rfl) (fun w' hw' hF => hsame.out w' _ _ (hO4.out _ _ (H4.out.call0 hw') (by simp; omega)) (hF.2 _ rfl (mE (by kernel_rfl)))) ?_; try go_frame)
  | (refine sp_val (fun w' hw' hF => ?_) ⟨_, rfl, nB rfl⟩ ?_
     · go_big_quiet_step (fail)
       first
          | exact rfl
          | (simp only [hne3]; exact rfl)
     try go_frame))
 refine sp_nil ?_
 intro w5 hw' hF
 have H := H4.out.call0 hw'
 clear hw' hF H4
 simp only [List.drop_succ_cons, List.drop_zero]
 go_wp2_with (refine st_skip rfl (rn_storeAll (vs := u8s (List.replicate 32 0)) H rfl rfl rfl (by kernel_rfl) .head (by kernel_rfl) (oneCell_ints _ _)) ?_; clear H; intro w9 H)
 refine fin_cell2 rfl H rfl (.head _) rfl rfl (by kernel_rfl) rfl rfl ⟨rfl, ?_⟩
 exact H.end0 (by simp; omega)
end Go.Proofs.YtfihlmnbonnekaaGreat
