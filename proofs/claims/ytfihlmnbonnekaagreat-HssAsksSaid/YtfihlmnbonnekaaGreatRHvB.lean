/- the document's VerifyKey, of two levels; whole. -/
import Derived.Test.YtfihlmnbonnekaaGreatRHvA
namespace Go.Proofs.YtfihlmnbonnekaaGreat
open Go.RowKit
set_option maxHeartbeats 32000000
set_option linter.unusedVariables false
set_option maxRecDepth 100000 in
theorem rhver_2c (w : World) (pv mv sv : Value) (pub msg sig : List Int) (hp : Old w pv pub) (hpb : IsBytes pub) (hm : Old w mv msg) (hmb : IsBytes msg) (hml : msg.length ≤ 90000) (hs : Old w sv sig) (hsb : IsBytes sig) (h60 : pub.length = 60) (r : List Int) (hpub : pub = 0 :: 0 :: 0 :: 2 :: r) (hw : widthL (pub.drop 4) ≠ 0) (hs4 : 4 ≤ sig.length) (hS : sig.take 4 = numB (1 : Int) 4) (hc : 4 + sizeOfL (widthL (pub.drop 4)) + 56 ≤ sig.length) (hfm : widthL (((sig.drop 4).drop (sizeOfL (widthL (pub.drop 4)))).take 56) = 0) :
 Calls Tryz.prog 31 #[pv, mv, sv] w fun e w' => e = .returned (.int .i64 3) ∧ Own w w' [] := by
 have H := Own.refl w
 obtain ⟨bp, op, cp, e1, hcp⟩ := hp.at0 (by omega)
 subst e1
 rw [h60] at hp hcp ⊢
 have hb : BytesAt w (.slice (some ⟨bp, op, none⟩) 60 cp) pub := hp.1
 have hpe := hpub
 obtain ⟨key, hkey⟩ : ∃ k, k = pub.drop 4 := ⟨_, rfl⟩
 have hK : Hid (Old w (.slice (some ⟨bp, op + 4, none⟩) 56 (cp - 4)) key) := by rw [hkey]; exact hp.drop4 h60.symm hcp
 have hkb : IsBytes key := by rw [hkey]; exact isBytes_dropH hpb 4
 have hkl : key.length = 56 := by rw [hkey, List.length_drop, h60]
 have c0 : Hid (w.cell? ⟨bp, op + 0, none⟩ = some (.int .u8 0)) := by show _ = _; exact bytes_cellV (n := 60) (c := cp) (by rw [BytesAt] at hb; exact hb) 0 _ (by rw [hpub]; rfl)
 have c1 : Hid (w.cell? ⟨bp, op + 1, none⟩ = some (.int .u8 0)) := by show _ = _; exact bytes_cellV (n := 60) (c := cp) (by rw [BytesAt] at hb; exact hb) 1 _ (by rw [hpub]; rfl)
 have c2 : Hid (w.cell? ⟨bp, op + 2, none⟩ = some (.int .u8 0)) := by show _ = _; exact bytes_cellV (n := 60) (c := cp) (by rw [BytesAt] at hb; exact hb) 2 _ (by rw [hpub]; rfl)
 have c3 : Hid (w.cell? ⟨bp, op + 3, none⟩ = some (.int .u8 2)) := by show _ = _; exact bytes_cellV (n := 60) (c := cp) (by rw [BytesAt] at hb; exact hb) 3 _ (by rw [hpub]; rfl)
 rw [← hkey] at hw hc hfm
 have hfo : Hid (∀ w' v, Old w' v key → Calls Tryz.prog 21 #[v] w' fun e w'' => e = .returned (.bool true) ∧ Own w' w'' []) := fun w' v h => by
  have h1 := rform_any w' v key h hkb
  rwa [show decide (0 < widthL key) = true from decide_eq_true (by omega)] at h1
 have hnot : ∀ (x : Bool) (w : World), (Op.unary .not (.bool x)).run Tryz.prog w = .ok (.bool (!x)) w := fun _ _ => rfl
 obtain ⟨bs, os, cs, e2, hcs⟩ := hs.at0 (by omega)
 subst e2
 obtain ⟨n, hn⟩ : ∃ n, n = sig.length := ⟨_, rfl⟩
 have hsO := Hh hs
 rw [← hn] at hs4 hcs hs hsO ⊢
 have h4O : Hid (Old w (.slice (some ⟨bs, os, none⟩) 4 cs) (sig.take 4)) := by show Old _ _ _; exact Old.to6 hs hn (by omega) hcs (by omega)
 have hT4 : IsBytes (sig.take 4) := isBytes_take hsb 4
 obtain ⟨T4, hT40⟩ : ∃ T, T = sig.take 4 := ⟨_, rfl⟩
 rw [← hT40] at h4O hT4
 rw [← hT40] at hS
 have hnm : Hid (∀ w', Calls Tryz.prog 42 #[.int .u64 1, .int .i64 4] w' fun e w'' => ∃ r, e = .returned r ∧ BIn (numB (1 : Int) 4) w'' r ∧ Own w' w'' []) := fun w' => refNum_any w' 1 4 (by omega) (by omega)
 have hsm : Hid (∀ w' v u, Old w' v T4 → BIn (numB (1 : Int) 4) w' u → Calls Tryz.prog 11 #[v, u] w' fun e w'' => e = .returned (.bool true) ∧ Own w' w'' []) := fun w' v u h1 h2 => by
  have h := same_any w' v u _ _ h1.1 h2.2.1 hT4 (isBytes_numB _ _)
  rwa [decide_eq_true hS] at h
 have hk4 : widthL key = 1 ∨ widthL key = 2 ∨ widthL key = 4 ∨ widthL key = 8 := by
  have hkk := widthV_cases key.length (num4V key false) (num4V (num4X key false) (num4W key false))
  rw [show widthV key.length (num4V key false) (num4V (num4X key false) (num4W key false)) = widthL key from rfl] at hkk
  rcases hkk with h | ⟨_, _, h, _⟩
  · exact absurd h hw
  · exact h
 have h5 : beN key 4 = 5 := by
  by_cases h : key.length = 56 ∧ beN key 4 = 5
  · exact h.2
  · exact absurd (widthL_0 h) hw
 have hwd : Hid (∀ w', Own w w' [] → Calls Tryz.prog 53 #[.slice (some ⟨bp, op + 8, none⟩) 4 (cp - 8)] w' fun e w'' => e = .returned (.int .i64 (widthL key : Nat)) ∧ Own w' w'' []) := fun w' h => by
  have h1 := rwidth_any w' _ _ ((hp.mv h (by simp)).part (l := 8) (m := 4) (d := cp - 8) h60.symm (by omega) (by omega) (by omega)) (isBytes_take (isBytes_dropH hpb _) _) (by rw [List.length_take, List.length_drop]; omega)
  rwa [show beN ((pub.drop 8).take 4) 4 = beN (key.drop 4) 4 by rw [hkey]; simp [beN], ← widthL_D hkl h5] at h1
 have hsi : Hid (∀ w', Calls Tryz.prog 55 #[.int .i64 (widthL key : Nat)] w' fun e w'' => e = .returned (.int .i64 (sizeOfL (widthL key) : Nat)) ∧ Own w' w'' []) := fun w' => rsize_k w' _ hk4
 obtain ⟨k, hk⟩ : ∃ k, k = widthL key := ⟨_, rfl⟩
 obtain ⟨z, hz⟩ : ∃ z, z = sizeOfL k := ⟨_, rfl⟩
 have hz9 : z ≤ 9000 ∧ 40 ≤ z := by rw [hz]; unfold sizeOfL; have := chN_le k; omega
 obtain ⟨hz9, hz0⟩ := hz9
 rw [← hk] at hwd hsi
 rw [← hz] at hsi
 rw [← hk, ← hz] at hc hfm
 rw [← hn] at hc
 have hLO : Hid (∀ w', Own w w' [] → Old w' (.slice (some ⟨bs, os + (4 + z), none⟩) 56 (cs - (4 + z))) (((sig.drop 4).drop z).take 56)) := fun w' h => by
  have h1 := (hsO.out.mv h (by simp)).part (l := 4 + z) (m := 56) (d := cs - (4 + z)) hn (by omega) (by omega) (by omega)
  rwa [← List.drop_drop] at h1
 have hLb : IsBytes (((sig.drop 4).drop z).take 56) := isBytes_take (isBytes_dropH (isBytes_dropH hsb _) _) _
 have hLl : (((sig.drop 4).drop z).take 56).length = 56 := by rw [List.length_take, List.length_drop, List.length_drop]; omega
 have hfl : Hid (∀ w' v, Old w' v (((sig.drop 4).drop z).take 56) → Calls Tryz.prog 21 #[v] w' fun e w'' => e = .returned (.bool false) ∧ Own w' w'' []) := fun w' v h => by
  have h1 := rform_any w' v _ h hLb
  rwa [hfm, show decide (0 < 0) = false from rfl] at h1
 clear hp hpb hm hmb hml hs hsb hpub hpe hb h60 hkey hkb hkl hw hn hT4 hT40 hS hk4 h5 hk hz hsO hLb hLl hfm
 go_enter Tryz.func31, Tryz.ntmps31
 have z1 := tt
 go_wp2_with (first
  | (refine st_valG rfl (rn_idxSlN (j := 0) (q := op + 0) rfl rfl size_u8 rfl rfl rfl (by omega) rfl) ?_)
  | (refine st_valG rfl (rn_idxSlN (j := 1) (q := op + 1) rfl rfl size_u8 rfl rfl rfl (by omega) rfl) ?_)
  | (refine st_valG rfl (rn_idxSlN (j := 2) (q := op + 2) rfl rfl size_u8 rfl rfl rfl (by omega) rfl) ?_)
  | (refine st_valG rfl (rn_idxSlN (j := 3) (q := op + 3) rfl rfl size_u8 rfl rfl rfl (by omega) rfl) ?_)
  | (refine st_valG rfl (rn_cell (i := op + 0) rfl rfl rfl rfl c0.out) ?_)
  | (refine st_valG rfl (rn_cell (i := op + 1) rfl rfl rfl rfl c1.out) ?_)
  | (refine st_valG rfl (rn_cell (i := op + 2) rfl rfl rfl rfl c2.out) ?_)
  | (refine st_valG rfl (rn_cell (i := op + 3) rfl rfl rfl rfl c3.out) ?_)
  | (refine st_valG rfl (rn_part (l := 4) (h := 60) (m := 56) (d := cp - 4) rfl rfl size_u8 rfl (by exact .yes rfl) (by exact .no _) (by omega) (by omega) hcp rfl rfl) ?_)
  | (clear z1; go_at_call 21; refine (hfo.out _ _ (hK.out.mv H (by simp))).mono ?_; rintro e w4 ⟨rfl, h3⟩; replace H := H.call0 h3; clear h3; have z2 := tt))
 have H4 := Hh H
 clear H
 have hd1 : decide ((n : Int) < 4) = false := decide_eq_false (by omega)
 have hd2 : decide (n < 4) = false := decide_eq_false (by omega)
 have k3 : Hid (∀ w', Own w4 w' [] → w'.cell? ⟨bp, op + 3, none⟩ = some (.int .u8 2)) := fun w' h => (H4.out.trans h).old c3.out (by simp)
 have h4w : Hid (∀ w', Own w4 w' [] → Old w' (.slice (some ⟨bs, os, none⟩) 4 cs) T4) := fun w' h => h4O.out.mv (H4.out.trans h) (by simp)
 refine region_grow 15 (by kernel_rfl) (by kernel_rfl) (by kernel_rfl) [.val (.slice (some ⟨bs, os, none⟩) n cs), .val (.int .i64 n), .val (.bool false), .val (.bool false), .val (.slice (some ⟨bs, os, none⟩) n cs), .val (.slice (some ⟨bs, os, none⟩) 4 cs), .val (.slice (some ⟨bp, op, none⟩) 60 cp), .val (.pointer (some ⟨bp, op + 3, none⟩)), .val (.int .u8 2), .val (.int .u64 2), .val (.int .u64 1), .rel (BIn (numB (1 : Int) 4)), .val (.bool true), .val (.bool false), .val (.bool false)] rfl ?_
 have z3 := tt
 try go_frame
 repeat (first
  | (clear z3; refine sp_run (v := .slice (some ⟨bs, os, none⟩) 4 cs) rfl (fun w' hw' _ => rn_to6 (h := 4) rfl rfl size_u8 rfl (by exact .yes rfl) (by omega) hcs) ?_; try go_frame; have z4 := tt)
  | (clear z4; refine sp_run (v := .pointer (some ⟨bp, op + 3, none⟩)) rfl (fun w' hw' _ => rn_idxSlN (j := 3) (q := op + 3) rfl rfl size_u8 rfl rfl rfl (by omega) rfl) ?_; try go_frame; have z5 := tt)
  | (clear z5; refine sp_run (v := .int .u8 2) rfl (fun w' hw' _ => rn_cell (i := op + 3) rfl rfl rfl rfl (k3.out w' hw')) ?_; try go_frame; have z6 := tt)
  | (clear z6; refine sp_callR (args := #[.int .u64 1, .int .i64 4]) (BIn.mono _) rfl rfl (by simp [Act.eval]) Tryz.func42 (by kernel_rfl) (by kernel_rfl) (fun w' hw' _ => hnm.out w') ?_; intro v58; try go_frame; have z7 := tt)
  | (clear z7; refine sp_callN (v := .bool true) (args := #[.slice (some ⟨bs, os, none⟩) 4 cs, v58]) rfl rfl (by simp [Act.eval]) Tryz.func11 (by kernel_rfl) (by kernel_rfl) (fun w' hw' hF => hsm.out w' _ _ (h4w.out w' hw') (hF.2 _ rfl (mE (by kernel_rfl)))) ?_; try go_frame; have z8 := tt)
  | (refine sp_skip rfl ?_; try go_frame)
  | (refine sp_val (fun w' hw' hF => ?_) ⟨_, rfl, nB rfl⟩ ?_
     · go_big_quiet_step (fail)
       exact rfl
     try go_frame))
 refine sp_nil ?_
 intro w5 hw' hF
 have H := H4.out.trans hw'
 clear hw' hF k3 h4w H4 hnm hsm
 simp only [List.drop_succ_cons, List.drop_zero]
 have z1 := tt
 go_wp2_with (first
  | (refine st_val rfl (rn_idxSlN (j := 0) (q := op + 0) rfl rfl size_u8 rfl rfl rfl (by omega) rfl) ?_)
  | (refine st_val rfl (rn_idxSlN (j := 1) (q := op + 1) rfl rfl size_u8 rfl rfl rfl (by omega) rfl) ?_)
  | (refine st_val rfl (rn_idxSlN (j := 2) (q := op + 2) rfl rfl size_u8 rfl rfl rfl (by omega) rfl) ?_)
  | (refine st_val rfl (rn_idxSlN (j := 3) (q := op + 3) rfl rfl size_u8 rfl rfl rfl (by omega) rfl) ?_)
  | (refine st_val rfl (rn_cell (i := op + 0) rfl rfl rfl rfl (H.old c0.out (by simp))) ?_)
  | (refine st_val rfl (rn_cell (i := op + 1) rfl rfl rfl rfl (H.old c1.out (by simp))) ?_)
  | (refine st_val rfl (rn_cell (i := op + 2) rfl rfl rfl rfl (H.old c2.out (by simp))) ?_)
  | (refine st_val rfl (rn_cell (i := op + 3) rfl rfl rfl rfl (H.old c3.out (by simp))) ?_)
  | (clear z1; refine st_val rfl (rn_part (l := 8) (h := 12) (m := 4) (d := cp - 8) rfl rfl size_u8 rfl (by exact .yes rfl) (by exact .yes rfl) (by omega) (by omega) hcp rfl rfl) ?_; have z2 := tt)
  | (clear z2; go_at_call 53; refine (hwd.out _ H).mono ?_; rintro e w6 ⟨rfl, h3⟩; replace H := H.call0 h3; clear h3; have z3 := tt)
  | (clear z3; go_at_call 55; refine (hsi.out _).mono ?_; rintro e w7 ⟨rfl, h3⟩; replace H := H.call0 h3; clear h3; have z4 := tt))
 have H7 := Hh H
 clear H
 have hd3 : decide ((n : Int) < 4 + (z : Int) + 56) = false := decide_eq_false (by omega)
 have hd4 : decide (n < 4 + z + 56) = false := decide_eq_false (by omega)
 refine region_grow 32 (by kernel_rfl) (by kernel_rfl) (by kernel_rfl) [.val (.slice (some ⟨bs, os, none⟩) n cs), .val (.int .i64 n), .val (.int .i64 z), .val (.int .i64 (4 + (z : Int))), .val (.int .i64 (4 + (z : Int) + 56)), .val (.bool false), .val (.bool false), .val (.slice (some ⟨bs, os, none⟩) n cs), .val (.int .i64 z), .val (.int .i64 (4 + (z : Int))), .val (.int .i64 z), .val (.int .i64 (60 + (z : Int))), .val (.slice (some ⟨bs, os + (4 + z), none⟩) 56 (cs - (4 + z))), .val (.bool false), .val (.bool true), .val (.bool true), .val (.bool true), .val undef, .val undef, .val undef, .val undef, .val undef, .val undef, .val undef, .val undef, .val undef, .val undef, .val undef, .val undef, .val undef, .val undef, .val (.bool true)] rfl ?_
 have z3 := tt
 try go_frame
 repeat (first
  | (clear z3; refine sp_run (v := .slice (some ⟨bs, os + (4 + z), none⟩) 56 (cs - (4 + z))) rfl (fun w' hw' _ => rn_part (l := 4 + z) (h := 60 + z) (m := 56) (d := cs - (4 + z)) rfl rfl size_u8 rfl (by exact .yes (by omega)) (by exact .yes (by omega)) (by omega) (by omega) hcs (by omega) rfl) ?_; try go_frame; have z4 := tt)
  | (clear z4; refine sp_callN (v := .bool false) (args := #[.slice (some ⟨bs, os + (4 + z), none⟩) 56 (cs - (4 + z))]) rfl rfl (by simp [Act.eval]) Tryz.func21 (by kernel_rfl) (by kernel_rfl) (fun w' hw' hF => hfl.out w' _ (hLO.out w' (H7.out.trans hw'))) ?_; try go_frame; have z5 := tt)
  | (refine sp_skip rfl ?_; try go_frame)
  | (refine sp_val (fun w' hw' hF => ?_) ⟨_, rfl, nB rfl⟩ ?_
     · go_big_quiet_step (fail)
       exact rfl
     try go_frame))
 refine sp_nil ?_
 intro w8 hw' hF
 have HE := Hh (H7.out.trans hw')
 clear hw' hF
 simp only [List.drop_succ_cons, List.drop_zero]
 go_wp2_with fail
 go_ret
 exact ⟨rfl, HE.out⟩
set_option maxRecDepth 100000 in
theorem rhver_2d (w : World) (pv mv sv : Value) (pub msg sig : List Int) (hp : Old w pv pub) (hpb : IsBytes pub) (hm : Old w mv msg) (hmb : IsBytes msg) (hml : msg.length ≤ 90000) (hs : Old w sv sig) (hsb : IsBytes sig) (h60 : pub.length = 60) (r : List Int) (hpub : pub = 0 :: 0 :: 0 :: 2 :: r) (hw : widthL (pub.drop 4) ≠ 0) (hs4 : 4 ≤ sig.length) (hS : sig.take 4 = numB (1 : Int) 4) (hc : 4 + sizeOfL (widthL (pub.drop 4)) + 56 ≤ sig.length) (hfm : widthL (((sig.drop 4).drop (sizeOfL (widthL (pub.drop 4)))).take 56) ≠ 0) (hvv : verL (pub.drop 4) (((sig.drop 4).drop (sizeOfL (widthL (pub.drop 4)))).take 56) ((sig.drop 4).take (sizeOfL (widthL (pub.drop 4)))) = 3) :
 Calls Tryz.prog 31 #[pv, mv, sv] w fun e w' => e = .returned (.int .i64 3) ∧ Own w w' [] := by
 have H := Own.refl w
 obtain ⟨bp, op, cp, e1, hcp⟩ := hp.at0 (by omega)
 subst e1
 rw [h60] at hp hcp ⊢
 have hb : BytesAt w (.slice (some ⟨bp, op, none⟩) 60 cp) pub := hp.1
 have hpe := hpub
 obtain ⟨key, hkey⟩ : ∃ k, k = pub.drop 4 := ⟨_, rfl⟩
 have hK : Hid (Old w (.slice (some ⟨bp, op + 4, none⟩) 56 (cp - 4)) key) := by rw [hkey]; exact hp.drop4 h60.symm hcp
 have hkb : IsBytes key := by rw [hkey]; exact isBytes_dropH hpb 4
 have hkl : key.length = 56 := by rw [hkey, List.length_drop, h60]
 have c0 : Hid (w.cell? ⟨bp, op + 0, none⟩ = some (.int .u8 0)) := by show _ = _; exact bytes_cellV (n := 60) (c := cp) (by rw [BytesAt] at hb; exact hb) 0 _ (by rw [hpub]; rfl)
 have c1 : Hid (w.cell? ⟨bp, op + 1, none⟩ = some (.int .u8 0)) := by show _ = _; exact bytes_cellV (n := 60) (c := cp) (by rw [BytesAt] at hb; exact hb) 1 _ (by rw [hpub]; rfl)
 have c2 : Hid (w.cell? ⟨bp, op + 2, none⟩ = some (.int .u8 0)) := by show _ = _; exact bytes_cellV (n := 60) (c := cp) (by rw [BytesAt] at hb; exact hb) 2 _ (by rw [hpub]; rfl)
 have c3 : Hid (w.cell? ⟨bp, op + 3, none⟩ = some (.int .u8 2)) := by show _ = _; exact bytes_cellV (n := 60) (c := cp) (by rw [BytesAt] at hb; exact hb) 3 _ (by rw [hpub]; rfl)
 rw [← hkey] at hw hc hfm hvv
 have hfo : Hid (∀ w' v, Old w' v key → Calls Tryz.prog 21 #[v] w' fun e w'' => e = .returned (.bool true) ∧ Own w' w'' []) := fun w' v h => by
  have h1 := rform_any w' v key h hkb
  rwa [show decide (0 < widthL key) = true from decide_eq_true (by omega)] at h1
 have hnot : ∀ (x : Bool) (w : World), (Op.unary .not (.bool x)).run Tryz.prog w = .ok (.bool (!x)) w := fun _ _ => rfl
 obtain ⟨bs, os, cs, e2, hcs⟩ := hs.at0 (by omega)
 subst e2
 obtain ⟨n, hn⟩ : ∃ n, n = sig.length := ⟨_, rfl⟩
 have hsO := Hh hs
 rw [← hn] at hs4 hcs hs hsO ⊢
 have h4O : Hid (Old w (.slice (some ⟨bs, os, none⟩) 4 cs) (sig.take 4)) := by show Old _ _ _; exact Old.to6 hs hn (by omega) hcs (by omega)
 have hT4 : IsBytes (sig.take 4) := isBytes_take hsb 4
 obtain ⟨T4, hT40⟩ : ∃ T, T = sig.take 4 := ⟨_, rfl⟩
 rw [← hT40] at h4O hT4
 rw [← hT40] at hS
 have hnm : Hid (∀ w', Calls Tryz.prog 42 #[.int .u64 1, .int .i64 4] w' fun e w'' => ∃ r, e = .returned r ∧ BIn (numB (1 : Int) 4) w'' r ∧ Own w' w'' []) := fun w' => refNum_any w' 1 4 (by omega) (by omega)
 have hsm : Hid (∀ w' v u, Old w' v T4 → BIn (numB (1 : Int) 4) w' u → Calls Tryz.prog 11 #[v, u] w' fun e w'' => e = .returned (.bool true) ∧ Own w' w'' []) := fun w' v u h1 h2 => by
  have h := same_any w' v u _ _ h1.1 h2.2.1 hT4 (isBytes_numB _ _)
  rwa [decide_eq_true hS] at h
 have hk4 : widthL key = 1 ∨ widthL key = 2 ∨ widthL key = 4 ∨ widthL key = 8 := by
  have hkk := widthV_cases key.length (num4V key false) (num4V (num4X key false) (num4W key false))
  rw [show widthV key.length (num4V key false) (num4V (num4X key false) (num4W key false)) = widthL key from rfl] at hkk
  rcases hkk with h | ⟨_, _, h, _⟩
  · exact absurd h hw
  · exact h
 have h5 : beN key 4 = 5 := by
  by_cases h : key.length = 56 ∧ beN key 4 = 5
  · exact h.2
  · exact absurd (widthL_0 h) hw
 have hwd : Hid (∀ w', Own w w' [] → Calls Tryz.prog 53 #[.slice (some ⟨bp, op + 8, none⟩) 4 (cp - 8)] w' fun e w'' => e = .returned (.int .i64 (widthL key : Nat)) ∧ Own w' w'' []) := fun w' h => by
  have h1 := rwidth_any w' _ _ ((hp.mv h (by simp)).part (l := 8) (m := 4) (d := cp - 8) h60.symm (by omega) (by omega) (by omega)) (isBytes_take (isBytes_dropH hpb _) _) (by rw [List.length_take, List.length_drop]; omega)
  rwa [show beN ((pub.drop 8).take 4) 4 = beN (key.drop 4) 4 by rw [hkey]; simp [beN], ← widthL_D hkl h5] at h1
 have hsi : Hid (∀ w', Calls Tryz.prog 55 #[.int .i64 (widthL key : Nat)] w' fun e w'' => e = .returned (.int .i64 (sizeOfL (widthL key) : Nat)) ∧ Own w' w'' []) := fun w' => rsize_k w' _ hk4
 obtain ⟨k, hk⟩ : ∃ k, k = widthL key := ⟨_, rfl⟩
 obtain ⟨z, hz⟩ : ∃ z, z = sizeOfL k := ⟨_, rfl⟩
 have hz9 : z ≤ 9000 ∧ 40 ≤ z := by rw [hz]; unfold sizeOfL; have := chN_le k; omega
 obtain ⟨hz9, hz0⟩ := hz9
 rw [← hk] at hwd hsi
 rw [← hz] at hsi
 rw [← hk, ← hz] at hc hfm hvv
 rw [← hn] at hc
 have hLO : Hid (∀ w', Own w w' [] → Old w' (.slice (some ⟨bs, os + (4 + z), none⟩) 56 (cs - (4 + z))) (((sig.drop 4).drop z).take 56)) := fun w' h => by
  have h1 := (hsO.out.mv h (by simp)).part (l := 4 + z) (m := 56) (d := cs - (4 + z)) hn (by omega) (by omega) (by omega)
  rwa [← List.drop_drop] at h1
 have hLb : IsBytes (((sig.drop 4).drop z).take 56) := isBytes_take (isBytes_dropH (isBytes_dropH hsb _) _) _
 have hLl : (((sig.drop 4).drop z).take 56).length = 56 := by rw [List.length_take, List.length_drop, List.length_drop]; omega
 have hfl : Hid (∀ w' v, Old w' v (((sig.drop 4).drop z).take 56) → Calls Tryz.prog 21 #[v] w' fun e w'' => e = .returned (.bool true) ∧ Own w' w'' []) := fun w' v h => by
  have h1 := rform_any w' v _ h hLb
  rwa [show decide (0 < widthL (((sig.drop 4).drop z).take 56)) = true from decide_eq_true (by omega)] at h1
 have hUP : Hid (∀ w', Own w w' [] → Old w' (.slice (some ⟨bs, os + 4, none⟩) z (cs - 4)) ((sig.drop 4).take z)) := fun w' h => (hsO.out.mv h (by simp)).part (l := 4) (m := z) (d := cs - 4) hn (by omega) (by omega) (by omega)
 have hUb : IsBytes ((sig.drop 4).take z) := isBytes_take (isBytes_dropH hsb _) _
 have hv1 : Hid (∀ w' v u t, Old w' v key → Old w' u (((sig.drop 4).drop z).take 56) → Old w' t ((sig.drop 4).take z) → Calls Tryz.prog 20 #[v, u, t] w' fun e w'' => e = .returned (.int .i64 3) ∧ Own w' w'' []) := fun w' v u t h1 h2 h3 => by
  have h := rver_any w' v u t key _ _ h1 hkb h2 hLb (by omega) h3 hUb
  rwa [hvv] at h
 have hKW : Hid (∀ w', Own w w' [] → Old w' (.slice (some ⟨bp, op + 4, none⟩) 56 (cp - 4)) key) := fun w' h => hK.out.mv h (by simp)
 clear hp hpb hm hmb hml hs hsb hpub hpe hb h60 hkey hkb hkl hw hn hT4 hT40 hS hk4 h5 hk hz hsO hLb hLl hfm hvv hUb
 go_enter Tryz.func31, Tryz.ntmps31
 have z1 := tt
 go_wp2_with (first
  | (refine st_valG rfl (rn_idxSlN (j := 0) (q := op + 0) rfl rfl size_u8 rfl rfl rfl (by omega) rfl) ?_)
  | (refine st_valG rfl (rn_idxSlN (j := 1) (q := op + 1) rfl rfl size_u8 rfl rfl rfl (by omega) rfl) ?_)
  | (refine st_valG rfl (rn_idxSlN (j := 2) (q := op + 2) rfl rfl size_u8 rfl rfl rfl (by omega) rfl) ?_)
  | (refine st_valG rfl (rn_idxSlN (j := 3) (q := op + 3) rfl rfl size_u8 rfl rfl rfl (by omega) rfl) ?_)
  | (refine st_valG rfl (rn_cell (i := op + 0) rfl rfl rfl rfl c0.out) ?_)
  | (refine st_valG rfl (rn_cell (i := op + 1) rfl rfl rfl rfl c1.out) ?_)
  | (refine st_valG rfl (rn_cell (i := op + 2) rfl rfl rfl rfl c2.out) ?_)
  | (refine st_valG rfl (rn_cell (i := op + 3) rfl rfl rfl rfl c3.out) ?_)
  | (refine st_valG rfl (rn_part (l := 4) (h := 60) (m := 56) (d := cp - 4) rfl rfl size_u8 rfl (by exact .yes rfl) (by exact .no _) (by omega) (by omega) hcp rfl rfl) ?_)
  | (clear z1; go_at_call 21; refine (hfo.out _ _ (hK.out.mv H (by simp))).mono ?_; rintro e w4 ⟨rfl, h3⟩; replace H := H.call0 h3; clear h3; have z2 := tt))
 have H4 := Hh H
 clear H
 have hd1 : decide ((n : Int) < 4) = false := decide_eq_false (by omega)
 have hd2 : decide (n < 4) = false := decide_eq_false (by omega)
 have k3 : Hid (∀ w', Own w4 w' [] → w'.cell? ⟨bp, op + 3, none⟩ = some (.int .u8 2)) := fun w' h => (H4.out.trans h).old c3.out (by simp)
 have h4w : Hid (∀ w', Own w4 w' [] → Old w' (.slice (some ⟨bs, os, none⟩) 4 cs) T4) := fun w' h => h4O.out.mv (H4.out.trans h) (by simp)
 refine region_grow 15 (by kernel_rfl) (by kernel_rfl) (by kernel_rfl) [.val (.slice (some ⟨bs, os, none⟩) n cs), .val (.int .i64 n), .val (.bool false), .val (.bool false), .val (.slice (some ⟨bs, os, none⟩) n cs), .val (.slice (some ⟨bs, os, none⟩) 4 cs), .val (.slice (some ⟨bp, op, none⟩) 60 cp), .val (.pointer (some ⟨bp, op + 3, none⟩)), .val (.int .u8 2), .val (.int .u64 2), .val (.int .u64 1), .rel (BIn (numB (1 : Int) 4)), .val (.bool true), .val (.bool false), .val (.bool false)] rfl ?_
 have z3 := tt
 try go_frame
 repeat (first
  | (clear z3; refine sp_run (v := .slice (some ⟨bs, os, none⟩) 4 cs) rfl (fun w' hw' _ => rn_to6 (h := 4) rfl rfl size_u8 rfl (by exact .yes rfl) (by omega) hcs) ?_; try go_frame; have z4 := tt)
  | (clear z4; refine sp_run (v := .pointer (some ⟨bp, op + 3, none⟩)) rfl (fun w' hw' _ => rn_idxSlN (j := 3) (q := op + 3) rfl rfl size_u8 rfl rfl rfl (by omega) rfl) ?_; try go_frame; have z5 := tt)
  | (clear z5; refine sp_run (v := .int .u8 2) rfl (fun w' hw' _ => rn_cell (i := op + 3) rfl rfl rfl rfl (k3.out w' hw')) ?_; try go_frame; have z6 := tt)
  | (clear z6; refine sp_callR (args := #[.int .u64 1, .int .i64 4]) (BIn.mono _) rfl rfl (by simp [Act.eval]) Tryz.func42 (by kernel_rfl) (by kernel_rfl) (fun w' hw' _ => hnm.out w') ?_; intro v58; try go_frame; have z7 := tt)
  | (clear z7; refine sp_callN (v := .bool true) (args := #[.slice (some ⟨bs, os, none⟩) 4 cs, v58]) rfl rfl (by simp [Act.eval]) Tryz.func11 (by kernel_rfl) (by kernel_rfl) (fun w' hw' hF => hsm.out w' _ _ (h4w.out w' hw') (hF.2 _ rfl (mE (by kernel_rfl)))) ?_; try go_frame; have z8 := tt)
  | (refine sp_skip rfl ?_; try go_frame)
  | (refine sp_val (fun w' hw' hF => ?_) ⟨_, rfl, nB rfl⟩ ?_
     · go_big_quiet_step (fail)
       exact rfl
     try go_frame))
 refine sp_nil ?_
 intro w5 hw' hF
 have H := H4.out.trans hw'
 clear hw' hF k3 h4w H4 hnm hsm
 simp only [List.drop_succ_cons, List.drop_zero]
 have z1 := tt
 go_wp2_with (first
  | (refine st_val rfl (rn_idxSlN (j := 0) (q := op + 0) rfl rfl size_u8 rfl rfl rfl (by omega) rfl) ?_)
  | (refine st_val rfl (rn_idxSlN (j := 1) (q := op + 1) rfl rfl size_u8 rfl rfl rfl (by omega) rfl) ?_)
  | (refine st_val rfl (rn_idxSlN (j := 2) (q := op + 2) rfl rfl size_u8 rfl rfl rfl (by omega) rfl) ?_)
  | (refine st_val rfl (rn_idxSlN (j := 3) (q := op + 3) rfl rfl size_u8 rfl rfl rfl (by omega) rfl) ?_)
  | (refine st_val rfl (rn_cell (i := op + 0) rfl rfl rfl rfl (H.old c0.out (by simp))) ?_)
  | (refine st_val rfl (rn_cell (i := op + 1) rfl rfl rfl rfl (H.old c1.out (by simp))) ?_)
  | (refine st_val rfl (rn_cell (i := op + 2) rfl rfl rfl rfl (H.old c2.out (by simp))) ?_)
  | (refine st_val rfl (rn_cell (i := op + 3) rfl rfl rfl rfl (H.old c3.out (by simp))) ?_)
  | (clear z1; refine st_val rfl (rn_part (l := 8) (h := 12) (m := 4) (d := cp - 8) rfl rfl size_u8 rfl (by exact .yes rfl) (by exact .yes rfl) (by omega) (by omega) hcp rfl rfl) ?_; have z2 := tt)
  | (clear z2; go_at_call 53; refine (hwd.out _ H).mono ?_; rintro e w6 ⟨rfl, h3⟩; replace H := H.call0 h3; clear h3; have z3 := tt)
  | (clear z3; go_at_call 55; refine (hsi.out _).mono ?_; rintro e w7 ⟨rfl, h3⟩; replace H := H.call0 h3; clear h3; have z4 := tt))
 have H7 := Hh H
 clear H
 have hd3 : decide ((n : Int) < 4 + (z : Int) + 56) = false := decide_eq_false (by omega)
 have hd4 : decide (n < 4 + z + 56) = false := decide_eq_false (by omega)
 refine region_grow 32 (by kernel_rfl) (by kernel_rfl) (by kernel_rfl) [.val (.slice (some ⟨bs, os, none⟩) n cs), .val (.int .i64 n), .val (.int .i64 z), .val (.int .i64 (4 + (z : Int))), .val (.int .i64 (4 + (z : Int) + 56)), .val (.bool false), .val (.bool false), .val (.slice (some ⟨bs, os, none⟩) n cs), .val (.int .i64 z), .val (.int .i64 (4 + (z : Int))), .val (.int .i64 z), .val (.int .i64 (60 + (z : Int))), .val (.slice (some ⟨bs, os + (4 + z), none⟩) 56 (cs - (4 + z))), .val (.bool true), .val (.bool false), .val (.bool false), .val (.bool false), .val (.slice (some ⟨bp, op, none⟩) 60 cp), .val (.slice (some ⟨bp, op + 4, none⟩) 56 (cp - 4)), .val (.slice (some ⟨bs, os, none⟩) n cs), .val (.int .i64 z), .val (.int .i64 (4 + (z : Int))), .val (.int .i64 z), .val (.int .i64 (60 + (z : Int))), .val (.slice (some ⟨bs, os + (4 + z), none⟩) 56 (cs - (4 + z))), .val (.slice (some ⟨bs, os, none⟩) n cs), .val (.int .i64 z), .val (.int .i64 (4 + (z : Int))), .val (.slice (some ⟨bs, os + 4, none⟩) z (cs - 4)), .val (.int .i64 3), .val (.bool true), .val (.bool true)] rfl ?_
 have z3 := tt
 try go_frame
 repeat (first
  | (clear z3; refine sp_run (v := .slice (some ⟨bs, os + (4 + z), none⟩) 56 (cs - (4 + z))) rfl (fun w' hw' _ => rn_part (l := 4 + z) (h := 60 + z) (m := 56) (d := cs - (4 + z)) rfl rfl size_u8 rfl (by exact .yes (by omega)) (by exact .yes (by omega)) (by omega) (by omega) hcs (by omega) rfl) ?_; try go_frame; have z4 := tt)
  | (clear z4; refine sp_callN (v := .bool true) (args := #[.slice (some ⟨bs, os + (4 + z), none⟩) 56 (cs - (4 + z))]) rfl rfl (by simp [Act.eval]) Tryz.func21 (by kernel_rfl) (by kernel_rfl) (fun w' hw' hF => hfl.out w' _ (hLO.out w' (H7.out.trans hw'))) ?_; try go_frame; have z5 := tt)
  | (clear z5; refine sp_run (v := .slice (some ⟨bp, op + 4, none⟩) 56 (cp - 4)) rfl (fun w' hw' _ => rn_part (l := 4) (h := 60) (m := 56) (d := cp - 4) rfl rfl size_u8 rfl (by exact .yes rfl) (by exact .no _) (by omega) (by omega) hcp rfl rfl) ?_; try go_frame; have z6 := tt)
  | (clear z6; refine sp_run (v := .slice (some ⟨bs, os + (4 + z), none⟩) 56 (cs - (4 + z))) rfl (fun w' hw' _ => rn_part (l := 4 + z) (h := 60 + z) (m := 56) (d := cs - (4 + z)) rfl rfl size_u8 rfl (by exact .yes (by omega)) (by exact .yes (by omega)) (by omega) (by omega) hcs (by omega) rfl) ?_; try go_frame; have z7 := tt)
  | (clear z7; refine sp_run (v := .slice (some ⟨bs, os + 4, none⟩) z (cs - 4)) rfl (fun w' hw' _ => rn_part (l := 4) (h := 4 + z) (m := z) (d := cs - 4) rfl rfl size_u8 rfl (by exact .yes rfl) (by exact .yes (by omega)) (by omega) (by omega) hcs (by omega) rfl) ?_; try go_frame; have z8 := tt)
  | (clear z8; refine sp_callN (v := .int .i64 3) (args := #[.slice (some ⟨bp, op + 4, none⟩) 56 (cp - 4), .slice (some ⟨bs, os + (4 + z), none⟩) 56 (cs - (4 + z)), .slice (some ⟨bs, os + 4, none⟩) z (cs - 4)]) rfl rfl (by simp [Act.eval]) Tryz.func20 (by kernel_rfl) (by kernel_rfl) (fun w' hw' hF => hv1.out w' _ _ _ (hKW.out w' (H7.out.trans hw')) (hLO.out w' (H7.out.trans hw')) (hUP.out w' (H7.out.trans hw'))) ?_; try go_frame; have z9 := tt)
  | (refine sp_skip rfl ?_; try go_frame)
  | (refine sp_val (fun w' hw' hF => ?_) ⟨_, rfl, nB rfl⟩ ?_
     · go_big_quiet_step (fail)
       exact rfl
     try go_frame))
 refine sp_nil ?_
 intro w8 hw' hF
 have HE := Hh (H7.out.trans hw')
 clear hw' hF
 simp only [List.drop_succ_cons, List.drop_zero]
 go_wp2_with fail
 go_ret
 exact ⟨rfl, HE.out⟩
set_option maxRecDepth 100000 in
theorem rhver_2e (w : World) (pv mv sv : Value) (pub msg sig : List Int) (hp : Old w pv pub) (hpb : IsBytes pub) (hm : Old w mv msg) (hmb : IsBytes msg) (hml : msg.length ≤ 90000) (hs : Old w sv sig) (hsb : IsBytes sig) (h60 : pub.length = 60) (r : List Int) (hpub : pub = 0 :: 0 :: 0 :: 2 :: r) (hw : widthL (pub.drop 4) ≠ 0) (hs4 : 4 ≤ sig.length) (hS : sig.take 4 = numB (1 : Int) 4) (hc : 4 + sizeOfL (widthL (pub.drop 4)) + 56 ≤ sig.length) (hfm : widthL (((sig.drop 4).drop (sizeOfL (widthL (pub.drop 4)))).take 56) ≠ 0) (hvv : verL (pub.drop 4) (((sig.drop 4).drop (sizeOfL (widthL (pub.drop 4)))).take 56) ((sig.drop 4).take (sizeOfL (widthL (pub.drop 4)))) = 0) :
 Calls Tryz.prog 31 #[pv, mv, sv] w fun e w' => e = .returned (.int .i64 (verL (((sig.drop 4).drop (sizeOfL (widthL (pub.drop 4)))).take 56) msg (((sig.drop 4).drop (sizeOfL (widthL (pub.drop 4)))).drop 56))) ∧ Own w w' [] := by
 have H := Own.refl w
 obtain ⟨bp, op, cp, e1, hcp⟩ := hp.at0 (by omega)
 subst e1
 rw [h60] at hp hcp ⊢
 have hb : BytesAt w (.slice (some ⟨bp, op, none⟩) 60 cp) pub := hp.1
 have hpe := hpub
 obtain ⟨key, hkey⟩ : ∃ k, k = pub.drop 4 := ⟨_, rfl⟩
 have hK : Hid (Old w (.slice (some ⟨bp, op + 4, none⟩) 56 (cp - 4)) key) := by rw [hkey]; exact hp.drop4 h60.symm hcp
 have hkb : IsBytes key := by rw [hkey]; exact isBytes_dropH hpb 4
 have hkl : key.length = 56 := by rw [hkey, List.length_drop, h60]
 have c0 : Hid (w.cell? ⟨bp, op + 0, none⟩ = some (.int .u8 0)) := by show _ = _; exact bytes_cellV (n := 60) (c := cp) (by rw [BytesAt] at hb; exact hb) 0 _ (by rw [hpub]; rfl)
 have c1 : Hid (w.cell? ⟨bp, op + 1, none⟩ = some (.int .u8 0)) := by show _ = _; exact bytes_cellV (n := 60) (c := cp) (by rw [BytesAt] at hb; exact hb) 1 _ (by rw [hpub]; rfl)
 have c2 : Hid (w.cell? ⟨bp, op + 2, none⟩ = some (.int .u8 0)) := by show _ = _; exact bytes_cellV (n := 60) (c := cp) (by rw [BytesAt] at hb; exact hb) 2 _ (by rw [hpub]; rfl)
 have c3 : Hid (w.cell? ⟨bp, op + 3, none⟩ = some (.int .u8 2)) := by show _ = _; exact bytes_cellV (n := 60) (c := cp) (by rw [BytesAt] at hb; exact hb) 3 _ (by rw [hpub]; rfl)
 rw [← hkey] at hw hc hfm hvv ⊢
 have hfo : Hid (∀ w' v, Old w' v key → Calls Tryz.prog 21 #[v] w' fun e w'' => e = .returned (.bool true) ∧ Own w' w'' []) := fun w' v h => by
  have h1 := rform_any w' v key h hkb
  rwa [show decide (0 < widthL key) = true from decide_eq_true (by omega)] at h1
 have hnot : ∀ (x : Bool) (w : World), (Op.unary .not (.bool x)).run Tryz.prog w = .ok (.bool (!x)) w := fun _ _ => rfl
 obtain ⟨bs, os, cs, e2, hcs⟩ := hs.at0 (by omega)
 subst e2
 obtain ⟨n, hn⟩ : ∃ n, n = sig.length := ⟨_, rfl⟩
 have hsO := Hh hs
 rw [← hn] at hs4 hcs hs hsO ⊢
 have h4O : Hid (Old w (.slice (some ⟨bs, os, none⟩) 4 cs) (sig.take 4)) := by show Old _ _ _; exact Old.to6 hs hn (by omega) hcs (by omega)
 have hT4 : IsBytes (sig.take 4) := isBytes_take hsb 4
 obtain ⟨T4, hT40⟩ : ∃ T, T = sig.take 4 := ⟨_, rfl⟩
 rw [← hT40] at h4O hT4
 rw [← hT40] at hS
 have hnm : Hid (∀ w', Calls Tryz.prog 42 #[.int .u64 1, .int .i64 4] w' fun e w'' => ∃ r, e = .returned r ∧ BIn (numB (1 : Int) 4) w'' r ∧ Own w' w'' []) := fun w' => refNum_any w' 1 4 (by omega) (by omega)
 have hsm : Hid (∀ w' v u, Old w' v T4 → BIn (numB (1 : Int) 4) w' u → Calls Tryz.prog 11 #[v, u] w' fun e w'' => e = .returned (.bool true) ∧ Own w' w'' []) := fun w' v u h1 h2 => by
  have h := same_any w' v u _ _ h1.1 h2.2.1 hT4 (isBytes_numB _ _)
  rwa [decide_eq_true hS] at h
 have hk4 : widthL key = 1 ∨ widthL key = 2 ∨ widthL key = 4 ∨ widthL key = 8 := by
  have hkk := widthV_cases key.length (num4V key false) (num4V (num4X key false) (num4W key false))
  rw [show widthV key.length (num4V key false) (num4V (num4X key false) (num4W key false)) = widthL key from rfl] at hkk
  rcases hkk with h | ⟨_, _, h, _⟩
  · exact absurd h hw
  · exact h
 have h5 : beN key 4 = 5 := by
  by_cases h : key.length = 56 ∧ beN key 4 = 5
  · exact h.2
  · exact absurd (widthL_0 h) hw
 have hwd : Hid (∀ w', Own w w' [] → Calls Tryz.prog 53 #[.slice (some ⟨bp, op + 8, none⟩) 4 (cp - 8)] w' fun e w'' => e = .returned (.int .i64 (widthL key : Nat)) ∧ Own w' w'' []) := fun w' h => by
  have h1 := rwidth_any w' _ _ ((hp.mv h (by simp)).part (l := 8) (m := 4) (d := cp - 8) h60.symm (by omega) (by omega) (by omega)) (isBytes_take (isBytes_dropH hpb _) _) (by rw [List.length_take, List.length_drop]; omega)
  rwa [show beN ((pub.drop 8).take 4) 4 = beN (key.drop 4) 4 by rw [hkey]; simp [beN], ← widthL_D hkl h5] at h1
 have hsi : Hid (∀ w', Calls Tryz.prog 55 #[.int .i64 (widthL key : Nat)] w' fun e w'' => e = .returned (.int .i64 (sizeOfL (widthL key) : Nat)) ∧ Own w' w'' []) := fun w' => rsize_k w' _ hk4
 obtain ⟨k, hk⟩ : ∃ k, k = widthL key := ⟨_, rfl⟩
 obtain ⟨z, hz⟩ : ∃ z, z = sizeOfL k := ⟨_, rfl⟩
 have hz9 : z ≤ 9000 ∧ 40 ≤ z := by rw [hz]; unfold sizeOfL; have := chN_le k; omega
 obtain ⟨hz9, hz0⟩ := hz9
 rw [← hk] at hwd hsi
 rw [← hz] at hsi
 rw [← hk, ← hz] at hc hfm hvv ⊢
 rw [← hn] at hc
 have hLO : Hid (∀ w', Own w w' [] → Old w' (.slice (some ⟨bs, os + (4 + z), none⟩) 56 (cs - (4 + z))) (((sig.drop 4).drop z).take 56)) := fun w' h => by
  have h1 := (hsO.out.mv h (by simp)).part (l := 4 + z) (m := 56) (d := cs - (4 + z)) hn (by omega) (by omega) (by omega)
  rwa [← List.drop_drop] at h1
 have hLb : IsBytes (((sig.drop 4).drop z).take 56) := isBytes_take (isBytes_dropH (isBytes_dropH hsb _) _) _
 have hLl : (((sig.drop 4).drop z).take 56).length = 56 := by rw [List.length_take, List.length_drop, List.length_drop]; omega
 have hfl : Hid (∀ w' v, Old w' v (((sig.drop 4).drop z).take 56) → Calls Tryz.prog 21 #[v] w' fun e w'' => e = .returned (.bool true) ∧ Own w' w'' []) := fun w' v h => by
  have h1 := rform_any w' v _ h hLb
  rwa [show decide (0 < widthL (((sig.drop 4).drop z).take 56)) = true from decide_eq_true (by omega)] at h1
 have hUP : Hid (∀ w', Own w w' [] → Old w' (.slice (some ⟨bs, os + 4, none⟩) z (cs - 4)) ((sig.drop 4).take z)) := fun w' h => (hsO.out.mv h (by simp)).part (l := 4) (m := z) (d := cs - 4) hn (by omega) (by omega) (by omega)
 have hUb : IsBytes ((sig.drop 4).take z) := isBytes_take (isBytes_dropH hsb _) _
 have hv1 : Hid (∀ w' v u t, Old w' v key → Old w' u (((sig.drop 4).drop z).take 56) → Old w' t ((sig.drop 4).take z) → Calls Tryz.prog 20 #[v, u, t] w' fun e w'' => e = .returned (.int .i64 0) ∧ Own w' w'' []) := fun w' v u t h1 h2 h3 => by
  have h := rver_any w' v u t key _ _ h1 hkb h2 hLb (by omega) h3 hUb
  rwa [hvv] at h
 have hKW : Hid (∀ w', Own w w' [] → Old w' (.slice (some ⟨bp, op + 4, none⟩) 56 (cp - 4)) key) := fun w' h => hK.out.mv h (by simp)
 have hve : Hid (∀ w' v u t, Old w' v (((sig.drop 4).drop z).take 56) → Old w' u msg → Old w' t (((sig.drop 4).drop z).drop 56) → Calls Tryz.prog 20 #[v, u, t] w' fun e w'' => e = .returned (.int .i64 (verL (((sig.drop 4).drop z).take 56) msg (((sig.drop 4).drop z).drop 56))) ∧ Own w' w'' []) := fun w' v u t h1 h2 h3 => rver_any w' v u t _ msg _ h1 hLb h2 hmb hml h3 (isBytes_dropH (isBytes_dropH (isBytes_dropH hsb _) _) _)
 obtain ⟨V, hV0⟩ : ∃ V, V = verL (((sig.drop 4).drop z).take 56) msg (((sig.drop 4).drop z).drop 56) := ⟨_, rfl⟩
 rw [← hV0] at hve ⊢
 obtain ⟨Z, hZ⟩ : ∃ Z, Z = ((sig.drop 4).drop z).drop 56 := ⟨_, rfl⟩
 have hnz := Hh hn
 have hzz : Hid ((sig.drop (60 + z)).take (n - (60 + z)) = Z) := by
  show _ = _
  rw [hZ, List.drop_drop, List.drop_drop, List.take_of_length_le (by rw [List.length_drop]; omega)]
  congr 1
  omega
 have hzl : Hid (Z.length = n - (60 + z)) := by show _ = _; rw [hZ, List.length_drop, List.length_drop, List.length_drop]; omega
 rw [← hZ] at hve
 have hmO := Hh hm
 obtain ⟨pm, cm, e3⟩ := hm.shape
 subst e3
 obtain ⟨ml, hmln⟩ : ∃ l, l = msg.length := ⟨_, rfl⟩
 rw [← hmln] at hmO ⊢
 clear hp hpb hm hmb hml hs hsb hpub hpe hb h60 hkey hkb hkl hw hn hT4 hT40 hS hk4 h5 hk hz hLb hLl hfm hvv hUb hV0 hZ hmln
 go_enter Tryz.func31, Tryz.ntmps31
 have z1 := tt
 go_wp2_with (first
  | (refine st_valG rfl (rn_idxSlN (j := 0) (q := op + 0) rfl rfl size_u8 rfl rfl rfl (by omega) rfl) ?_)
  | (refine st_valG rfl (rn_idxSlN (j := 1) (q := op + 1) rfl rfl size_u8 rfl rfl rfl (by omega) rfl) ?_)
  | (refine st_valG rfl (rn_idxSlN (j := 2) (q := op + 2) rfl rfl size_u8 rfl rfl rfl (by omega) rfl) ?_)
  | (refine st_valG rfl (rn_idxSlN (j := 3) (q := op + 3) rfl rfl size_u8 rfl rfl rfl (by omega) rfl) ?_)
  | (refine st_valG rfl (rn_cell (i := op + 0) rfl rfl rfl rfl c0.out) ?_)
  | (refine st_valG rfl (rn_cell (i := op + 1) rfl rfl rfl rfl c1.out) ?_)
  | (refine st_valG rfl (rn_cell (i := op + 2) rfl rfl rfl rfl c2.out) ?_)
  | (refine st_valG rfl (rn_cell (i := op + 3) rfl rfl rfl rfl c3.out) ?_)
  | (refine st_valG rfl (rn_part (l := 4) (h := 60) (m := 56) (d := cp - 4) rfl rfl size_u8 rfl (by exact .yes rfl) (by exact .no _) (by omega) (by omega) hcp rfl rfl) ?_)
  | (clear z1; go_at_call 21; refine (hfo.out _ _ (hK.out.mv H (by simp))).mono ?_; rintro e w4 ⟨rfl, h3⟩; replace H := H.call0 h3; clear h3; have z2 := tt))
 have H4 := Hh H
 clear H
 have hd1 : decide ((n : Int) < 4) = false := decide_eq_false (by omega)
 have hd2 : decide (n < 4) = false := decide_eq_false (by omega)
 have k3 : Hid (∀ w', Own w4 w' [] → w'.cell? ⟨bp, op + 3, none⟩ = some (.int .u8 2)) := fun w' h => (H4.out.trans h).old c3.out (by simp)
 have h4w : Hid (∀ w', Own w4 w' [] → Old w' (.slice (some ⟨bs, os, none⟩) 4 cs) T4) := fun w' h => h4O.out.mv (H4.out.trans h) (by simp)
 refine region_grow 15 (by kernel_rfl) (by kernel_rfl) (by kernel_rfl) [.val (.slice (some ⟨bs, os, none⟩) n cs), .val (.int .i64 n), .val (.bool false), .val (.bool false), .val (.slice (some ⟨bs, os, none⟩) n cs), .val (.slice (some ⟨bs, os, none⟩) 4 cs), .val (.slice (some ⟨bp, op, none⟩) 60 cp), .val (.pointer (some ⟨bp, op + 3, none⟩)), .val (.int .u8 2), .val (.int .u64 2), .val (.int .u64 1), .rel (BIn (numB (1 : Int) 4)), .val (.bool true), .val (.bool false), .val (.bool false)] rfl ?_
 have z3 := tt
 try go_frame
 repeat (first
  | (clear z3; refine sp_run (v := .slice (some ⟨bs, os, none⟩) 4 cs) rfl (fun w' hw' _ => rn_to6 (h := 4) rfl rfl size_u8 rfl (by exact .yes rfl) (by omega) hcs) ?_; try go_frame; have z4 := tt)
  | (clear z4; refine sp_run (v := .pointer (some ⟨bp, op + 3, none⟩)) rfl (fun w' hw' _ => rn_idxSlN (j := 3) (q := op + 3) rfl rfl size_u8 rfl rfl rfl (by omega) rfl) ?_; try go_frame; have z5 := tt)
  | (clear z5; refine sp_run (v := .int .u8 2) rfl (fun w' hw' _ => rn_cell (i := op + 3) rfl rfl rfl rfl (k3.out w' hw')) ?_; try go_frame; have z6 := tt)
  | (clear z6; refine sp_callR (args := #[.int .u64 1, .int .i64 4]) (BIn.mono _) rfl rfl (by simp [Act.eval]) Tryz.func42 (by kernel_rfl) (by kernel_rfl) (fun w' hw' _ => hnm.out w') ?_; intro v58; try go_frame; have z7 := tt)
  | (clear z7; refine sp_callN (v := .bool true) (args := #[.slice (some ⟨bs, os, none⟩) 4 cs, v58]) rfl rfl (by simp [Act.eval]) Tryz.func11 (by kernel_rfl) (by kernel_rfl) (fun w' hw' hF => hsm.out w' _ _ (h4w.out w' hw') (hF.2 _ rfl (mE (by kernel_rfl)))) ?_; try go_frame; have z8 := tt)
  | (refine sp_skip rfl ?_; try go_frame)
  | (refine sp_val (fun w' hw' hF => ?_) ⟨_, rfl, nB rfl⟩ ?_
     · go_big_quiet_step (fail)
       exact rfl
     try go_frame))
 refine sp_nil ?_
 intro w5 hw' hF
 have H := H4.out.trans hw'
 clear hw' hF k3 h4w H4 hnm hsm
 simp only [List.drop_succ_cons, List.drop_zero]
 have z1 := tt
 go_wp2_with (first
  | (refine st_val rfl (rn_idxSlN (j := 0) (q := op + 0) rfl rfl size_u8 rfl rfl rfl (by omega) rfl) ?_)
  | (refine st_val rfl (rn_idxSlN (j := 1) (q := op + 1) rfl rfl size_u8 rfl rfl rfl (by omega) rfl) ?_)
  | (refine st_val rfl (rn_idxSlN (j := 2) (q := op + 2) rfl rfl size_u8 rfl rfl rfl (by omega) rfl) ?_)
  | (refine st_val rfl (rn_idxSlN (j := 3) (q := op + 3) rfl rfl size_u8 rfl rfl rfl (by omega) rfl) ?_)
  | (refine st_val rfl (rn_cell (i := op + 0) rfl rfl rfl rfl (H.old c0.out (by simp))) ?_)
  | (refine st_val rfl (rn_cell (i := op + 1) rfl rfl rfl rfl (H.old c1.out (by simp))) ?_)
  | (refine st_val rfl (rn_cell (i := op + 2) rfl rfl rfl rfl (H.old c2.out (by simp))) ?_)
  | (refine st_val rfl (rn_cell (i := op + 3) rfl rfl rfl rfl (H.old c3.out (by simp))) ?_)
  | (clear z1; refine st_val rfl (rn_part (l := 8) (h := 12) (m := 4) (d := cp - 8) rfl rfl size_u8 rfl (by exact .yes rfl) (by exact .yes rfl) (by omega) (by omega) hcp rfl rfl) ?_; have z2 := tt)
  | (clear z2; go_at_call 53; refine (hwd.out _ H).mono ?_; rintro e w6 ⟨rfl, h3⟩; replace H := H.call0 h3; clear h3; have z3 := tt)
  | (clear z3; go_at_call 55; refine (hsi.out _).mono ?_; rintro e w7 ⟨rfl, h3⟩; replace H := H.call0 h3; clear h3; have z4 := tt))
 have H7 := Hh H
 clear H
 have hd3 : decide ((n : Int) < 4 + (z : Int) + 56) = false := decide_eq_false (by omega)
 have hd4 : decide (n < 4 + z + 56) = false := decide_eq_false (by omega)
 refine region_grow 32 (by kernel_rfl) (by kernel_rfl) (by kernel_rfl) [.val (.slice (some ⟨bs, os, none⟩) n cs), .val (.int .i64 n), .val (.int .i64 z), .val (.int .i64 (4 + (z : Int))), .val (.int .i64 (4 + (z : Int) + 56)), .val (.bool false), .val (.bool false), .val (.slice (some ⟨bs, os, none⟩) n cs), .val (.int .i64 z), .val (.int .i64 (4 + (z : Int))), .val (.int .i64 z), .val (.int .i64 (60 + (z : Int))), .val (.slice (some ⟨bs, os + (4 + z), none⟩) 56 (cs - (4 + z))), .val (.bool true), .val (.bool false), .val (.bool false), .val (.bool false), .val (.slice (some ⟨bp, op, none⟩) 60 cp), .val (.slice (some ⟨bp, op + 4, none⟩) 56 (cp - 4)), .val (.slice (some ⟨bs, os, none⟩) n cs), .val (.int .i64 z), .val (.int .i64 (4 + (z : Int))), .val (.int .i64 z), .val (.int .i64 (60 + (z : Int))), .val (.slice (some ⟨bs, os + (4 + z), none⟩) 56 (cs - (4 + z))), .val (.slice (some ⟨bs, os, none⟩) n cs), .val (.int .i64 z), .val (.int .i64 (4 + (z : Int))), .val (.slice (some ⟨bs, os + 4, none⟩) z (cs - 4)), .val (.int .i64 0), .val (.bool false), .val (.bool false)] rfl ?_
 have z3 := tt
 try go_frame
 repeat (first
  | (clear z3; refine sp_run (v := .slice (some ⟨bs, os + (4 + z), none⟩) 56 (cs - (4 + z))) rfl (fun w' hw' _ => rn_part (l := 4 + z) (h := 60 + z) (m := 56) (d := cs - (4 + z)) rfl rfl size_u8 rfl (by exact .yes (by omega)) (by exact .yes (by omega)) (by omega) (by omega) hcs (by omega) rfl) ?_; try go_frame; have z4 := tt)
  | (clear z4; refine sp_callN (v := .bool true) (args := #[.slice (some ⟨bs, os + (4 + z), none⟩) 56 (cs - (4 + z))]) rfl rfl (by simp [Act.eval]) Tryz.func21 (by kernel_rfl) (by kernel_rfl) (fun w' hw' hF => hfl.out w' _ (hLO.out w' (H7.out.trans hw'))) ?_; try go_frame; have z5 := tt)
  | (clear z5; refine sp_run (v := .slice (some ⟨bp, op + 4, none⟩) 56 (cp - 4)) rfl (fun w' hw' _ => rn_part (l := 4) (h := 60) (m := 56) (d := cp - 4) rfl rfl size_u8 rfl (by exact .yes rfl) (by exact .no _) (by omega) (by omega) hcp rfl rfl) ?_; try go_frame; have z6 := tt)
  | (clear z6; refine sp_run (v := .slice (some ⟨bs, os + (4 + z), none⟩) 56 (cs - (4 + z))) rfl (fun w' hw' _ => rn_part (l := 4 + z) (h := 60 + z) (m := 56) (d := cs - (4 + z)) rfl rfl size_u8 rfl (by exact .yes (by omega)) (by exact .yes (by omega)) (by omega) (by omega) hcs (by omega) rfl) ?_; try go_frame; have z7 := tt)
  | (clear z7; refine sp_run (v := .slice (some ⟨bs, os + 4, none⟩) z (cs - 4)) rfl (fun w' hw' _ => rn_part (l := 4) (h := 4 + z) (m := z) (d := cs - 4) rfl rfl size_u8 rfl (by exact .yes rfl) (by exact .yes (by omega)) (by omega) (by omega) hcs (by omega) rfl) ?_; try go_frame; have z8 := tt)
  | (clear z8; refine sp_callN (v := .int .i64 0) (args := #[.slice (some ⟨bp, op + 4, none⟩) 56 (cp - 4), .slice (some ⟨bs, os + (4 + z), none⟩) 56 (cs - (4 + z)), .slice (some ⟨bs, os + 4, none⟩) z (cs - 4)]) rfl rfl (by simp [Act.eval]) Tryz.func20 (by kernel_rfl) (by kernel_rfl) (fun w' hw' hF => hv1.out w' _ _ _ (hKW.out w' (H7.out.trans hw')) (hLO.out w' (H7.out.trans hw')) (hUP.out w' (H7.out.trans hw'))) ?_; try go_frame; have z9 := tt)
  | (refine sp_skip rfl ?_; try go_frame)
  | (refine sp_val (fun w' hw' hF => ?_) ⟨_, rfl, nB rfl⟩ ?_
     · go_big_quiet_step (fail)
       exact rfl
     try go_frame))
 refine sp_nil ?_
 intro w8 hw' hF
 have H8 := Hh (H7.out.trans hw')
 clear hw' hF
 simp only [List.drop_succ_cons, List.drop_zero]
 go_wp2_with fail
 have sW : Hid (∀ w', Own w8 w' [] → Old w' (.slice (some ⟨bs, os, none⟩) n cs) sig) := fun w' h => hsO.out.mv (H8.out.trans h) (by simp)
 have mW : Hid (∀ w', Own w8 w' [] → Old w' (.slice pm ml cm) msg) := fun w' h => hmO.out.mv (H8.out.trans h) (by simp)
 refine region_grow 12 (by kernel_rfl) (by kernel_rfl) (by kernel_rfl) [.val (.slice (some ⟨bs, os, none⟩) n cs), .val (.int .i64 z), .val (.int .i64 (4 + (z : Int))), .val (.int .i64 z), .val (.int .i64 (60 + (z : Int))), .val (.slice (some ⟨bs, os + (4 + z), none⟩) 56 (cs - (4 + z))), .val (.slice pm ml cm), .val (.slice (some ⟨bs, os, none⟩) n cs), .val (.int .i64 z), .val (.int .i64 (60 + (z : Int))), .rel (SlB (n - (60 + z)) Z), .val (.int .i64 V)] rfl ?_
 have z3 := tt
 try go_frame
 repeat (first
  | (clear z3; refine sp_run (v := .slice (some ⟨bs, os + (4 + z), none⟩) 56 (cs - (4 + z))) rfl (fun w' hw' _ => rn_part (l := 4 + z) (h := 60 + z) (m := 56) (d := cs - (4 + z)) rfl rfl size_u8 rfl (by exact .yes (by omega)) (by exact .yes (by omega)) (by omega) (by omega) hcs (by omega) rfl) ?_; try go_frame; have z4 := tt)
  | (clear z4; refine sp_rel (SlB.mono (n - (60 + z)) Z) rfl (fun w' hw' hF => yields_sub (l := 60 + z) (h' := n) rfl rfl size_u8 rfl (sW.out w' hw') hnz.out (by exact .yes (by omega)) (by exact .no _) (by omega) (Nat.le_refl _) hzz.out hzl.out) ?_; intro v118; try go_frame; have z5 := tt)
  | (clear z5; refine sp_callN (v := .int .i64 V) (args := #[.slice (some ⟨bs, os + (4 + z), none⟩) 56 (cs - (4 + z)), .slice pm ml cm, v118]) rfl rfl (by simp [Act.eval]) Tryz.func20 (by kernel_rfl) (by kernel_rfl) (fun w' hw' hF => by obtain ⟨p, c, rfl, h⟩ := hF.2 _ rfl (mE (by kernel_rfl)); exact hve.out w' _ _ _ (hLO.out w' (H8.out.trans hw')) (mW.out w' hw') h) ?_; try go_frame; have z6 := tt)
  | (refine sp_skip rfl ?_; try go_frame)
  | (refine sp_val (fun w' hw' hF => ?_) ⟨_, rfl, nB rfl⟩ ?_
     · go_big_quiet_step (fail)
       exact rfl
     try go_frame))
 refine sp_nil ?_
 intro w9 hw' hF
 have HE := Hh (H8.out.trans hw')
 clear hw' hF
 simp only [List.drop_succ_cons, List.drop_zero]
 go_wp2_with fail
 go_ret
 exact ⟨rfl, HE.out⟩
end Go.Proofs.YtfihlmnbonnekaaGreat
