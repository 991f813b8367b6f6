/- the document's width, Form, Size. -/
import Derived.Test.YtfihlmnbonnekaaGreatRLms
namespace Go.Proofs.YtfihlmnbonnekaaGreat
open Go.RowKit
set_option maxHeartbeats 32000000
theorem four {xs : List Int} (h : 4 ≤ xs.length) : ∃ a b c d r, xs = a :: b :: c :: d :: r := by
 match xs, h with
 | a :: b :: c :: d :: r, _ => exact ⟨a, b, c, d, r, rfl⟩
theorem beN_iff {xs : List Int} {c : Nat} (h : IsBytes xs) (h4 : 4 ≤ xs.length) (hc : c < 32) : beN xs 4 = (c : Int) ↔ xs.take 4 = numB c 4 := by
 obtain ⟨x0, x1, x2, x3, r, rfl⟩ := four h4
 rw [numB_small c hc]
 have b0 := h 0 (by simp)
 have b1 := h 1 (by simp)
 have b2 := h 2 (by simp)
 have b3 := h 3 (by simp)
 simp at b0 b1 b2 b3
 have e : beN (x0 :: x1 :: x2 :: x3 :: r) 4 = ((x0 * 256 + x1) * 256 + x2) * 256 + x3 := beN_app (xs := r)
 rw [e]
 simp
 constructor
 · intro h; omega
 · rintro ⟨rfl, rfl, rfl, rfl⟩; omega
def widthD (d : Int) : Nat := if d = 1 then 1 else if d = 2 then 2 else if d = 3 then 4 else if d = 4 then 8 else 0
theorem widthD_hit {i : Nat} (hi : i < 4) {d : Int} (h : d = ((i + 1 : Nat) : Int)) : widthD d = 2 ^ i := by
 subst h
 match i, hi with
 | 0, _ => rfl
 | 1, _ => rfl
 | 2, _ => rfl
 | 3, _ => rfl
theorem widthD_miss {d : Int} (h : ∀ j, j < 4 → d ≠ ((j + 1 : Nat) : Int)) : widthD d = 0 := by
 have h0 := h 0 (by omega)
 have h1 := h 1 (by omega)
 have h2 := h 2 (by omega)
 have h3 := h 3 (by omega)
 unfold widthD
 repeat' split
 all_goals omega
set_option maxRecDepth 100000 in
theorem rwidth_any (w : World) (v : Value) (bs : List Int) (hO : Old w v bs) (hb : IsBytes bs) (h4 : bs.length = 4) :
 Calls Tryz.prog 53 #[v] w fun e w' => e = .returned (.int .i64 (widthD (beN bs 4) : Nat)) ∧ Own w w' [] := by
 have hc : Hid (∀ w' i, i < 4 → Calls Tryz.prog 43 #[.int .i64 ((2 ^ i : Nat) : Int)] w' fun e w'' => e = .returned (.int .u64 ((i + 1 : Nat) : Int)) ∧ Own w' w'' []) := fun w' i hi => by
  match i, hi with
  | 0, _ => exact refCode_1 w'
  | 1, _ => exact refCode_2 w'
  | 2, _ => exact refCode_4 w'
  | 3, _ => exact refCode_8 w'
 have hn : Hid (∀ w' i, Calls Tryz.prog 42 #[.int .u64 ((i + 1 : Nat) : Int), .int .i64 4] w' fun e w'' => ∃ r, e = .returned r ∧ BIn (numB ((i + 1 : Nat) : Int) 4) w'' r ∧ Own w' w'' []) := fun w' i => refNum_any w' _ 4 (by omega) (by omega)
 have hs : Hid (∀ w' u i, i < 4 → Own w w' [] → BIn (numB ((i + 1 : Nat) : Int) 4) w' u → Calls Tryz.prog 11 #[v, u] w' fun e w'' => e = .returned (.bool (decide (beN bs 4 = ((i + 1 : Nat) : Int)))) ∧ Own w' w'' []) := fun w' u i hi h1 h2 => by
  have h := same_any w' v u bs _ (hO.at h1 (by simp)) h2.2.1 hb (isBytes_numB _ _)
  rw [show decide (bs = numB ((i + 1 : Nat) : Int) 4) = decide (beN bs 4 = ((i + 1 : Nat) : Int)) by
   rw [Bool.eq_iff_iff, decide_eq_true_eq, decide_eq_true_eq, beN_iff hb (by omega) (by omega), List.take_of_length_le (by omega)]] at h
  exact h
 obtain ⟨W, hW⟩ : ∃ W, W = widthD (beN bs 4) := ⟨_, rfl⟩
 obtain ⟨D, hD⟩ : ∃ d, d = beN bs 4 := ⟨_, rfl⟩
 rw [← hW]
 rw [← hD] at hW hs
 have hW' := Hh hW
 have H := Own.refl w
 clear hO hb h4 hW hD
 go_enter Tryz.func53, Tryz.ntmps53
 go_wp2_with fail
 go_loopw [3] (fun v3 wr => ∃ i : Nat, i ≤ 4 ∧ v3 = .int .i64 ((2 ^ i : Nat) : Int) ∧ (∀ j, j < i → D ≠ ((j + 1 : Nat) : Int)) ∧ Own w wr []) (fun v3 _ => (16 - intOf v3).toNat)
 case atStart => exact ⟨0, by omega, rfl, fun j hj => by omega, H⟩
 case round =>
  clear H
  obtain ⟨i, hi, rfl, hno, H⟩ := hrel
  have hno' := Hh hno
  clear hno
  by_cases hin : i < 4
  · have hc1 := Hh (fun w' => hc.out w' i hin)
    have hn1 := Hh (fun w' => hn.out w' i)
    have hs1 := Hh (fun w' u => hs.out w' u i hin)
    have hp2 : 2 ^ i * 2 = 2 ^ (i + 1) := by rw [Nat.pow_succ]
    have hp8 : 1 ≤ 2 ^ i ∧ 2 ^ i ≤ 8 := by
     match i, hin with
     | 0, _ => decide
     | 1, _ => decide
     | 2, _ => decide
     | 3, _ => decide
    have hhit : Hid (D = ((i + 1 : Nat) : Int) → W = 2 ^ i) := fun h => hW'.out.trans (widthD_hit hin h)
    have hmiss : Hid (D ≠ ((i + 1 : Nat) : Int) → ∀ j, j < i + 1 → D ≠ ((j + 1 : Nat) : Int)) := fun h j hj => by
     rcases Nat.lt_or_ge j i with h1 | h1
     · exact hno'.out j h1
     · obtain rfl : j = i := by omega
       exact h
    obtain ⟨m, hm⟩ : ∃ m, m = 2 ^ i := ⟨_, rfl⟩
    obtain ⟨ci, hci⟩ : ∃ c : Int, c = ((i + 1 : Nat) : Int) := ⟨_, rfl⟩
    obtain ⟨Nb, hNb⟩ : ∃ c, c = numB ((i + 1 : Nat) : Int) 4 := ⟨_, rfl⟩
    rw [← hm] at hc1 hp2 hp8 hhit ⊢
    rw [← hNb] at hn1 hs1
    rw [← hci] at hc1 hn1 hs1 hhit hmiss
    obtain ⟨hp6, hp7⟩ := hp8
    have hp2' := Hh hp2
    clear hm hci hNb hp2
    by_cases hx : D = ci
    · have hh := Hh (hhit.out hx)
      have hs2 : Hid (∀ w' u, Own w w' [] → BIn Nb w' u → Calls Tryz.prog 11 #[v, u] w' fun e w'' => e = .returned (.bool true) ∧ Own w' w'' []) := fun w' u h1 h2 => by have h := hs1.out w' u h1 h2; rwa [decide_eq_true hx] at h
      clear hhit hmiss hs1 hx
      have z1 := tt
      go_wp2_with (first
       | (clear z1; go_at_call 43; refine (hc1.out _).mono ?_; rintro e w2 ⟨rfl, h3⟩; replace H := H.call0 h3; clear h3; have z2 := tt)
       | (clear z2; go_at_call 42; refine (hn1.out _).mono ?_; rintro e w3 ⟨u, rfl, hu, h3⟩; replace H := H.call0 h3; clear h3; have z3 := tt)
       | (clear z3; go_at_call 11; refine (hs2.out _ _ H hu).mono ?_; rintro e w4 ⟨rfl, h3⟩; have H2 := H.call0 h3; clear H h3 hu; have H := H2; clear H2; have z4 := tt))
      have HE := Hh H
      clear H
      go_ret
      exact ⟨by rw [hh.out]; rfl, HE.out⟩
    · have hm := Hh (hmiss.out hx)
      have hs2 : Hid (∀ w' u, Own w w' [] → BIn Nb w' u → Calls Tryz.prog 11 #[v, u] w' fun e w'' => e = .returned (.bool false) ∧ Own w' w'' []) := fun w' u h1 h2 => by have h := hs1.out w' u h1 h2; rwa [decide_eq_false hx] at h
      clear hhit hmiss hs1 hx
      have z1 := tt
      go_wp2_with (first
       | (clear z1; go_at_call 43; refine (hc1.out _).mono ?_; rintro e w2 ⟨rfl, h3⟩; replace H := H.call0 h3; clear h3; have z2 := tt)
       | (clear z2; go_at_call 42; refine (hn1.out _).mono ?_; rintro e w3 ⟨u, rfl, hu, h3⟩; replace H := H.call0 h3; clear h3; have z3 := tt)
       | (clear z3; go_at_call 11; refine (hs2.out _ _ H hu).mono ?_; rintro e w4 ⟨rfl, h3⟩; have H2 := H.call0 h3; clear H h3 hu; have H := H2; clear H2; have z4 := tt))
      refine ⟨⟨i + 1, by omega, ?_, hm.out, H⟩, by simp [intOf]; omega⟩
      rw [← hp2'.out]
      go_num
  · obtain rfl : i = 4 := by omega
    have hk := Hh (hW'.out.trans (widthD_miss hno'.out))
    have HE := Hh H
    clear H
    go_wp2_with fail
    go_ret
    exact ⟨by rw [hk.out]; rfl, HE.out⟩
theorem widthL_D {bs : List Int} (h : bs.length = 56) (h5 : beN bs 4 = 5) : widthL bs = widthD (beN (bs.drop 4) 4) := by
 have e1 : num4V bs false = beN bs 4 := by unfold num4V; rw [if_neg (by simp; omega)]
 have e2 : num4X bs false = bs.drop 4 := by unfold num4X; rw [if_neg (by simp; omega)]
 have e3 : num4W bs false = false := by unfold num4W; rw [if_neg (by simp; omega)]
 have e4 : num4V (bs.drop 4) false = beN (bs.drop 4) 4 := by unfold num4V; rw [if_neg (by simp; omega)]
 unfold widthL
 rw [e1, e2, e3, e4]
 unfold widthV widthD
 rw [if_pos ⟨h, h5⟩]
theorem widthL_0 {bs : List Int} (h : ¬ (bs.length = 56 ∧ beN bs 4 = 5)) : widthL bs = 0 := by
 unfold widthL widthV
 by_cases h1 : bs.length = 56
 · have e1 : num4V bs false = beN bs 4 := by unfold num4V; rw [if_neg (by simp; omega)]
   rw [e1, if_neg h]
 · rw [if_neg (fun h2 => h1 h2.1)]
set_option maxRecDepth 100000 in
theorem rform_any (w : World) (v : Value) (bs : List Int) (hO : Old w v bs) (hb : IsBytes bs) :
 Calls Tryz.prog 21 #[v] w fun e w' => e = .returned (.bool (decide (0 < widthL bs))) ∧ Own w w' [] := by
 have hn5 : Hid (∀ w', Calls Tryz.prog 42 #[.int .u64 5, .int .i64 4] w' fun e w'' => ∃ r, e = .returned r ∧ BIn (numB 5 4) w'' r ∧ Own w' w'' []) := fun w' => refNum_any w' 5 4 (by omega) (by omega)
 have H := Own.refl w
 by_cases h56 : bs.length = 56
 · obtain ⟨g, off, c, e0, hcc⟩ := hO.at0 (by omega)
   subst e0
   have hO4 : Hid (∀ w', Own w w' [] → Old w' (.slice (some ⟨g, off + 0, none⟩) 4 (c - 0)) (bs.take 4)) := fun w' h => by
    have h1 := (hO.mv h (by simp)).part (l := 0) (m := 4) (d := c - 0) rfl (by omega) (by omega) (by omega)
    rwa [List.drop_zero] at h1
   have hO8 : Hid (∀ w', Own w w' [] → Old w' (.slice (some ⟨g, off + 4, none⟩) 4 (c - 4)) ((bs.drop 4).take 4)) := fun w' h => (hO.mv h (by simp)).part (l := 4) (m := 4) (d := c - 4) rfl (by omega) (by omega) (by omega)
   have hsm : Hid (∀ w' u, Own w w' [] → BIn (numB 5 4) w' u → Calls Tryz.prog 11 #[.slice (some ⟨g, off + 0, none⟩) 4 (c - 0), u] w' fun e w'' => e = .returned (.bool (decide (beN bs 4 = 5))) ∧ Own w' w'' []) := fun w' u h1 h2 => by
    have h := same_any w' _ u (bs.take 4) _ (hO4.out w' h1).1 h2.2.1 (isBytes_take hb _) (isBytes_numB _ _)
    rw [show decide (bs.take 4 = numB 5 4) = decide (beN bs 4 = 5) by
     rw [Bool.eq_iff_iff, decide_eq_true_eq, decide_eq_true_eq]; exact (beN_iff (c := 5) hb (by omega) (by omega)).symm] at h
    exact h
   have hwd : Hid (∀ w', Own w w' [] → Calls Tryz.prog 53 #[.slice (some ⟨g, off + 4, none⟩) 4 (c - 4)] w' fun e w'' => e = .returned (.int .i64 (widthD (beN (bs.drop 4) 4) : Nat)) ∧ Own w' w'' []) := fun w' h => by
    have h1 := rwidth_any w' _ _ (hO8.out w' h) (isBytes_take (isBytes_drop hb _) _) (by rw [List.length_take, List.length_drop]; omega)
    rwa [show beN ((bs.drop 4).take 4) 4 = beN (bs.drop 4) 4 by simp [beN]] at h1
   obtain ⟨N5, hN5⟩ : ∃ n, n = numB 5 4 := ⟨_, rfl⟩
   rw [← hN5] at hn5 hsm
   obtain ⟨n, hn⟩ : ∃ n, n = bs.length := ⟨_, rfl⟩
   rw [← hn] at hcc ⊢
   by_cases h5 : beN bs 4 = 5
   · have hWD := widthL_D h56 h5
     rw [hWD]
     obtain ⟨W, hW⟩ : ∃ W, W = widthD (beN (bs.drop 4) 4) := ⟨_, rfl⟩
     rw [← hW] at hwd ⊢
     rw [decide_eq_true h5] at hsm
     have hne : n = 56 := by omega
     subst hne
     clear hO hb h56 hO4 hO8 hN5 hn h5 hWD hW H
     go_enter Tryz.func21, Tryz.ntmps21
     go_wp2_with fail
     refine region_grow 15 (by kernel_rfl) (by kernel_rfl) (by kernel_rfl) [.val (.slice (some ⟨g, off, none⟩) 56 c), .val (.int .i64 56), .val (.bool true), .val (.bool true), .val (.slice (some ⟨g, off, none⟩) 56 c), .val (.slice (some ⟨g, off + 0, none⟩) 4 (c - 0)), .rel (BIn N5), .val (.bool true), .val (.bool true), .val (.bool true), .val (.slice (some ⟨g, off, none⟩) 56 c), .val (.slice (some ⟨g, off + 4, none⟩) 4 (c - 4)), .val (.int .i64 (W : Nat)), .val (.bool (decide (0 < W))), .val (.bool (decide (0 < W)))] rfl ?_
     have z3 := tt
     try go_frame
     repeat (first
      | (clear z3; refine sp_run (v := .slice (some ⟨g, off + 0, none⟩) 4 (c - 0)) rfl (fun w' hw' _ => rn_part (l := 0) (h := 4) rfl rfl size_u8 rfl (by exact .no _) (by exact .yes rfl) (by omega) (by omega) hcc rfl rfl) ?_; try go_frame; have z4 := tt)
      | (clear z4; refine sp_callR (args := #[.int .u64 5, .int .i64 4]) (BIn.mono _) rfl rfl (by simp [Act.eval]) Tryz.func42 (by kernel_rfl) (by kernel_rfl) (fun w' hw' hF => hn5.out w') ?_; intro v9; try go_frame; have z5 := tt)
      | (clear z5; refine sp_callN (v := .bool true) (args := #[.slice (some ⟨g, off + 0, none⟩) 4 (c - 0), v9]) rfl rfl (by simp [Act.eval]) Tryz.func11 (by kernel_rfl) (by kernel_rfl) (fun w' hw' hF => hsm.out w' v9 hw' (hF.2 _ rfl (mE (by kernel_rfl)))) ?_; try go_frame; have z6 := tt)
      | (clear z6; refine sp_run (v := .slice (some ⟨g, off + 4, none⟩) 4 (c - 4)) rfl (fun w' hw' _ => rn_part (l := 4) (h := 8) rfl rfl size_u8 rfl (by exact .yes rfl) (by exact .yes rfl) (by omega) (by omega) hcc rfl rfl) ?_; try go_frame; have z7 := tt)
      | (clear z7; refine sp_callN (v := .int .i64 (W : Nat)) (args := #[.slice (some ⟨g, off + 4, none⟩) 4 (c - 4)]) rfl rfl (by simp [Act.eval]) Tryz.func53 (by kernel_rfl) (by kernel_rfl) (fun w' hw' _ => hwd.out w' hw') ?_; try go_frame; have z8 := tt)
      | (refine sp_val (fun w' hw' hF => ?_) ⟨_, rfl, nB rfl⟩ ?_
         · go_big_quiet_step (fail)
           first
              | exact rfl
              | simp; exact rfl
              | (simp only [Int.natCast_pos]; exact rfl)
         try go_frame))
     refine sp_nil ?_
     intro w1 hw' hF
     have HE := Hh hw'
     clear hw' hF
     simp only [List.drop_succ_cons, List.drop_zero]
     go_wp2_with fail
     go_ret
     exact ⟨rfl, HE.out⟩
   · have hW0 := widthL_0 (bs := bs) (fun h => h5 h.2)
     rw [hW0]
     rw [decide_eq_false h5] at hsm
     have hne : n = 56 := by omega
     subst hne
     clear hO hb h56 hO4 hO8 hN5 hn h5 hW0 H hwd
     go_enter Tryz.func21, Tryz.ntmps21
     go_wp2_with fail
     refine region_grow 15 (by kernel_rfl) (by kernel_rfl) (by kernel_rfl) [.val (.slice (some ⟨g, off, none⟩) 56 c), .val (.int .i64 56), .val (.bool true), .val (.bool true), .val (.slice (some ⟨g, off, none⟩) 56 c), .val (.slice (some ⟨g, off + 0, none⟩) 4 (c - 0)), .rel (BIn N5), .val (.bool false), .val (.bool false), .val (.bool false), .val undef, .val undef, .val undef, .val undef, .val (.bool false)] rfl ?_
     have z3 := tt
     try go_frame
     repeat (first
      | (clear z3; refine sp_run (v := .slice (some ⟨g, off + 0, none⟩) 4 (c - 0)) rfl (fun w' hw' _ => rn_part (l := 0) (h := 4) rfl rfl size_u8 rfl (by exact .no _) (by exact .yes rfl) (by omega) (by omega) hcc rfl rfl) ?_; try go_frame; have z4 := tt)
      | (clear z4; refine sp_callR (args := #[.int .u64 5, .int .i64 4]) (BIn.mono _) rfl rfl (by simp [Act.eval]) Tryz.func42 (by kernel_rfl) (by kernel_rfl) (fun w' hw' hF => hn5.out w') ?_; intro v9; try go_frame; have z5 := tt)
      | (clear z5; refine sp_callN (v := .bool false) (args := #[.slice (some ⟨g, off + 0, none⟩) 4 (c - 0), v9]) rfl rfl (by simp [Act.eval]) Tryz.func11 (by kernel_rfl) (by kernel_rfl) (fun w' hw' hF => hsm.out w' v9 hw' (hF.2 _ rfl (mE (by kernel_rfl)))) ?_; try go_frame; have z6 := tt)
      | (refine sp_skip rfl ?_; try go_frame)
      | (refine sp_val (fun w' hw' hF => ?_) ⟨_, rfl, nB rfl⟩ ?_
         · go_big_quiet_step (fail)
           exact rfl
         try go_frame))
     refine sp_nil ?_
     intro w1 hw' hF
     have HE := Hh hw'
     clear hw' hF
     simp only [List.drop_succ_cons, List.drop_zero]
     go_wp2_with fail
     go_ret
     exact ⟨rfl, HE.out⟩
 · have hW0 := widthL_0 (bs := bs) (fun h => h56 h.1)
   rw [hW0]
   obtain ⟨p, c, e0⟩ := hO.shape
   subst e0
   obtain ⟨n, hn⟩ : ∃ n, n = bs.length := ⟨_, rfl⟩
   rw [← hn]
   have hne : ((n : Int) == 56) = false := by rw [beq_eq_false_iff_ne]; omega
   have hne2 : ¬ (n : Int) = 56 := by omega
   clear hO hb h56 hn hW0 H
   go_enter Tryz.func21, Tryz.ntmps21
   go_wp2_with fail
   refine region_grow 15 (by kernel_rfl) (by kernel_rfl) (by kernel_rfl) [.val (.slice p n c), .val (.int .i64 n), .val (.bool false), .val (.bool false), .val undef, .val undef, .val undef, .val undef, .val (.bool false), .val (.bool false), .val undef, .val undef, .val undef, .val undef, .val (.bool false)] rfl ?_
   try go_frame
   repeat (first
    | (refine sp_skip rfl ?_; try go_frame)
    | (refine sp_val (fun w' hw' hF => ?_) ⟨_, rfl, nB rfl⟩ ?_
       · go_big_quiet_step (fail)
         first
            | exact rfl
            | (simp only [hne]; exact rfl)
       try go_frame))
   refine sp_nil ?_
   intro w1 hw' hF
   have HE := Hh hw'
   clear hw' hF
   simp only [List.drop_succ_cons, List.drop_zero]
   go_wp2_with fail
   go_ret
   exact ⟨rfl, HE.out⟩
theorem rsize_k (w : World) (k : Nat) (hk : k = 1 ∨ k = 2 ∨ k = 4 ∨ k = 8) : Calls Tryz.prog 55 #[.int .i64 k] w fun e w' => e = .returned (.int .i64 (sizeOfL k : Nat)) ∧ Own w w' [] := by
 have H := Own.refl w
 have hch := Hh (fun w' => refChains_k w' k hk)
 have hsz : Hid (40 + 32 * (chN k : Int) + 4 + 160 = (sizeOfL k : Nat)) := by show _ = _; unfold sizeOfL; omega
 obtain ⟨hC0, hC1⟩ := chN_le k
 obtain ⟨C, hC⟩ : ∃ C, C = chN k := ⟨_, rfl⟩
 rw [← hC] at hch hC0 hC1 hsz
 have hne : ((C : Int) == 0) = false := by rw [beq_eq_false_iff_ne]; omega
 have hne2 : ¬ (C : Int) = 0 := by omega
 clear hC hk
 go_enter Tryz.func55, Tryz.ntmps55
 go_wp2_with (go_at_call 54; refine (hch.out _).mono ?_; rintro e w2 ⟨rfl, h3⟩; replace H := H.call0 h3; clear h3)
 rw [hsz.out]
 go_ret
 exact ⟨rfl, H⟩
end Go.Proofs.YtfihlmnbonnekaaGreat
