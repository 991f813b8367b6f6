/- chirographlaw4.told. -/
import Derived.Test.YtfihlmnbonnekaaLVer
namespace Go.Proofs.Ytfihlmnbonnekaa
open Go.RowKit

theorem old_nil (w : World) : Old w (.slice none 0 0) [] := ⟨Or.inl ⟨⟨none, rfl⟩, rfl, rfl⟩, fun k hk => by cases hk⟩
theorem isBytes_nil' : IsBytes [] := fun i hi => by simp at hi
theorem ver_nil : verL [] [] [] = 2 := by decide
theorem wid_nil : widthL [] = 0 := by decide

set_option maxRecDepth 100000 in
set_option maxHeartbeats 4000000 in
theorem ltold_any (w : World) : Calls Try.prog 24 #[] w fun e w' => e = .returned (.bool true) ∧ Own w w' [] := by
  have H := Own.refl w
  have h1 : Hid (∀ w', Calls Try.prog 27 #[.agg (u8s (List.replicate 48 0)).toArray, .int .i64 3] w' fun e w'' => e = .returned (.tuple #[.pointer none, .int .i64 1]) ∧ Own w' w'' []) := fun w' => lnew_bad w' _ 3 (by decide)
  have h2 := Lib.hid (fun w' => lsign_bad w' (.pointer none) (.slice none 0 0) 0 (Or.inl rfl))
  have h3 := Lib.hid (fun w' => lnode_bad w' (.pointer none) 1 (Or.inl rfl))
  have h4 : Hid (∀ w', Calls Try.prog 48 #[.int .i64 2] w' fun e w'' => e = .returned (.int .i64 4460) ∧ Own w' w'' []) := fun w' => size_k w' 2 (by omega)
  have h5 := Lib.hid (fun w' => size_bad w' 3 (by decide))
  have h6 := Lib.hid lpub_nil
  have h7 : Hid (∀ w', Calls Try.prog 26 #[.slice none 0 0, .slice none 0 0, .slice none 0 0] w' fun e w'' => e = .returned (.int .i64 2) ∧ Own w' w'' []) := fun w' => by
    have h := ver_any w' _ _ _ [] [] [] (old_nil w') isBytes_nil' (by simp) (old_nil w') isBytes_nil' (by simp) (old_nil w') isBytes_nil' (by simp)
    rwa [ver_nil] at h
  have h8 : Hid (∀ w', Calls Try.prog 25 #[.slice none 0 0] w' fun e w'' => e = .returned (.bool false) ∧ Own w' w'' []) := fun w' => by
    have h := form_any w' _ [] (old_nil w') isBytes_nil' (by simp)
    rwa [wid_nil] at h
  go_enter Try.func24, Try.ntmps24
  have tok1 : True := trivial
  go_wp2_with (first
    | (clear tok1; go_at_call 27; refine (h1.out _).mono ?_; rintro e w1 ⟨rfl, h⟩; have H2 := H.call0 h; clear H h; have H := H2; clear H2; have tok2 : True := trivial)
    | (clear tok2; go_at_call 28; refine (h2.out _).mono ?_; rintro e w2 ⟨rfl, h⟩; have H2 := H.call0 h; clear H h; have H := H2; clear H2; have tok3 : True := trivial)
    | (clear tok3; go_at_call 29; refine (h3.out _).mono ?_; rintro e w3 ⟨rfl, h⟩; have H2 := H.call0 h; clear H h; have H := H2; clear H2; have tok4 : True := trivial)
    | (clear tok4; refine st_new rfl (rn_alloc H rfl info_hash) ?_; clear H; intro b6 w4 hb6 H; have tok5 : True := trivial)
    | (clear tok5; refine st_skip rfl (rn_storeAll (vs := u8s (List.replicate 32 0)) H rfl rfl rfl (by kernel_rfl) .head (by kernel_rfl) (oneCell_ints _ _)) ?_; clear H; intro w5 H; have tok6 : True := trivial)
    | (clear tok6; go_at_call 48; refine (h4.out _).mono ?_; rintro e w6 ⟨rfl, h⟩; have H2 := H.call0 h; clear H h; have H := H2; clear H2; have tok7 : True := trivial)
    | (clear tok7; go_at_call 48; refine (h5.out _).mono ?_; rintro e w7 ⟨rfl, h⟩; have H2 := H.call0 h; clear H h; have H := H2; clear H2; have tok8 : True := trivial)
    | (clear tok8; go_at_call 30; refine (h6.out _).mono ?_; rintro e w8 ⟨rfl, h⟩; have H2 := H.call0 h; clear H h; have H := H2; clear H2; have tok9 : True := trivial)
    | (clear tok9; go_at_call 26; refine (h7.out _).mono ?_; rintro e w9 ⟨rfl, h⟩; have H2 := H.call0 h; clear H h; have H := H2; clear H2; have tok10 : True := trivial)
    | (clear tok10; go_at_call 25; refine (h8.out _).mono ?_; rintro e w10 ⟨rfl, h⟩; have H2 := H.call0 h; clear H h; have H := H2; clear H2))
  have HE := Lib.hid (H.end0 (by simpa using hb6))
  clear H
  go_ret
  exact ⟨rfl, HE.out⟩

/-! what a tree signs holds by its public key -/
theorem numB_small : ∀ q : Nat, q < 32 → numB (q : Int) 4 = [0, 0, 0, (q : Int)] := by decide
theorem beN_app {xs : List Int} {a b c d : Int} : beN ([a, b, c, d] ++ xs) 4 = ((a * 256 + b) * 256 + c) * 256 + d := by simp [beN]
theorem beN_small (q : Nat) (hq : q < 32) (xs : List Int) : beN (numB q 4 ++ xs) 4 = q := by
  rw [numB_small q hq, beN_app]
  omega
theorem cdN_nat {k : Nat} (hk : k = 1 ∨ k = 2 ∨ k = 4 ∨ k = 8) : ∃ c : Nat, c < 32 ∧ cdN k = (c : Int) := by
  rcases hk with rfl | rfl | rfl | rfl
  · exact ⟨1, by omega, rfl⟩
  · exact ⟨2, by omega, rfl⟩
  · exact ⟨3, by omega, rfl⟩
  · exact ⟨4, by omega, rfl⟩
theorem pubL_eq (id seed : List Int) (k : Nat) : pubL id seed k = numB ((5 : Nat) : Int) 4 ++ (numB (cdN k) 4 ++ (id ++ nodeOf id seed k 1)) := by unfold pubL; simp
theorem width_pubL {id : List Int} (h16 : id.length = 16) (seed : List Int) {k : Nat} (hk : k = 1 ∨ k = 2 ∨ k = 4 ∨ k = 8) : widthL (pubL id seed k) = k := by
  have hl := length_pubL h16 seed k
  have h1 : num4V (pubL id seed k) false = 5 := by
    unfold num4V
    rw [if_neg (by simp; omega), pubL_eq, beN_small 5 (by omega)]; rfl
  have h2 : num4X (pubL id seed k) false = numB (cdN k) 4 ++ (id ++ nodeOf id seed k 1) := by
    unfold num4X
    rw [if_neg (by simp; omega), pubL_eq, List.drop_left' (length_numB _ _)]
  have h3 : num4W (pubL id seed k) false = false := by unfold num4W; rw [if_neg (by simp; omega)]
  obtain ⟨c, hc, e⟩ := cdN_nat hk
  have h4 : num4V (numB (cdN k) 4 ++ (id ++ nodeOf id seed k 1)) false = cdN k := by
    unfold num4V
    rw [if_neg (by simp [length_numB]), e, beN_small c hc]
  unfold widthL
  rw [hl, h1, h2, h3, h4]
  rcases hk with rfl | rfl | rfl | rfl <;> rfl
theorem vId_pubL {id : List Int} (h16 : id.length = 16) (seed : List Int) (k : Nat) : vId (pubL id seed k) = id := by
  unfold vId
  rw [pubL_eq, ← List.append_assoc, List.drop_left' (by rw [List.length_append, length_numB, length_numB]), List.take_left' h16]
theorem root_pubL {id : List Int} (h16 : id.length = 16) (seed : List Int) (k : Nat) : (pubL id seed k).drop 24 = nodeOf id seed k 1 := by
  unfold pubL
  rw [List.drop_left' (by rw [List.length_append, List.length_append, length_numB, length_numB, h16])]
theorem lsig_eq (id seed : List Int) (k q : Nat) (msg : List Int) : lsigOf id seed k q msg = numB q 4 ++ (sigOf id seed q k msg ++ (numB ((5 : Nat) : Int) 4 ++ flatX (pathOf id seed k q) 5)) := by unfold lsigOf; simp
theorem climb_path {id seed : List Int} {k q : Nat} (hq : q < 32) {x : List Int} {O : Nat → List Int} (hx : x = nodeOf id seed k (q + 32)) (hO : ∀ i, i < 5 → O i = pathOf id seed k q i) : ∀ i, i ≤ 5 → climbC id q x O i = nodeOf id seed k ((q + 32) / 2 ^ i)
  | 0, _ => by rw [Nat.pow_zero, Nat.div_one]; exact hx
  | i + 1, hi => by
    obtain ⟨g1, g2, g3⟩ := path_r hq (i := i) (by omega)
    have ih := climb_path hq hx hO i (by omega)
    unfold climbC
    rw [ih, hO i (by omega)]
    unfold pathOf
    have hn := nodeOf_inner id seed k (r := (q + 32) / 2 ^ i / 2) (by omega) (by omega)
    rw [← g3, hn]
    generalize (q + 32) / 2 ^ i = m at *
    by_cases h : m % 2 = 1
    · rw [if_pos h, show sibN m = 2 * (m / 2) by unfold sibN; rw [if_neg (by omega)]; omega, show 2 * (m / 2) + 1 = m by omega]
    · rw [if_neg h, show sibN m = 2 * (m / 2) + 1 by unfold sibN; rw [if_pos (by omega)]; omega, show 2 * (m / 2) = m by omega]
theorem ver_sig {id : List Int} (h16 : id.length = 16) (seed : List Int) {k : Nat} (hk : k = 1 ∨ k = 2 ∨ k = 4 ∨ k = 8) {q : Nat} (hq : q < 32) (msg : List Int) : verL (pubL id seed k) msg (lsigOf id seed k q msg) = 0 := by
  have hl := length_lsigOf id seed k q msg
  have hsl := length_sigOf id seed q k msg
  have hQ : beN (lsigOf id seed k q msg) 4 = (q : Int) := by rw [lsig_eq, beN_small q hq]
  have hd4 : (lsigOf id seed k q msg).drop 4 = sigOf id seed q k msg ++ (numB ((5 : Nat) : Int) 4 ++ flatX (pathOf id seed k q) 5) := by rw [lsig_eq, List.drop_left' (length_numB _ _)]
  have hd40 : (lsigOf id seed k q msg).drop (40 + 32 * chN k) = numB ((5 : Nat) : Int) 4 ++ flatX (pathOf id seed k q) 5 := by
    rw [show 40 + 32 * chN k = 4 + (36 + 32 * chN k) by omega, ← List.drop_drop, hd4, List.drop_left' hsl]
  have hd44 : (lsigOf id seed k q msg).drop (44 + 32 * chN k) = flatX (pathOf id seed k q) 5 := by
    rw [show 44 + 32 * chN k = 40 + 32 * chN k + 4 by omega, ← List.drop_drop, hd40, List.drop_left' (length_numB _ _)]
  have hp : vPart k (lsigOf id seed k q msg) = sigOf id seed q k msg := by unfold vPart; rw [hd4, List.take_left' hsl]
  have hok : vOk k (lsigOf id seed k q msg) = true := by
    unfold vOk
    rw [hQ, hd40, beN_small 5 (by omega), decide_eq_true (by omega), decide_eq_true (by rfl)]
    rfl
  have hroot : vRoot (pubL id seed k) msg (lsigOf id seed k q msg) k = (pubL id seed k).drop 24 := by
    rw [root_pubL h16]
    unfold vRoot
    have hvq : vQ (lsigOf id seed k q msg) = q := by unfold vQ; rw [hQ]; simp
    rw [hvq, vId_pubL h16, hp, cand_sig, climb_path hq (by rw [nodeOf_leaf id seed k (by omega), show q + 32 - 32 = q by omega]) (fun i hi => ?_) 5 (Nat.le_refl 5), path_end hq]
    have hfl := length_flatX (length_pathOf id seed k q) 5
    have hsz : sizeOfL k = 204 + 32 * chN k := rfl
    rw [pcA_eq (by omega), ← List.drop_drop, hd44, flatX_piece (length_pathOf id seed k q) hi]
  unfold verL
  rw [width_pubL h16 seed hk, if_neg (by omega)]
  unfold verK
  rw [if_pos hl, if_pos hok, hp, candE_sig, if_pos rfl, if_pos hroot]

end Go.Proofs.Ytfihlmnbonnekaa
