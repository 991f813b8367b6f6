/- hss: New, Public; chirographlaw5.told. -/
import Derived.Test.YtfihlmnbonnekaaGreatHVer
namespace Go.Proofs.YtfihlmnbonnekaaGreat
open Go.RowKit

set_option maxRecDepth 100000 in
theorem hnew_w (w : World) (ss : List Int) (h48 : ss.length = 48) (x l : Int) (hx : chainsOf x = 0) :
    Calls Tryz.prog 23 #[.agg (u8s ss).toArray, .int .i64 x, .int .i64 l] w fun e w' => e = .returned (.tuple #[.pointer none, .int .i64 1]) ∧ Own w w' [] := by
  have H := Own.refl w
  have hb := Lib.hid (fun w' => lnew_bad w' ss x hx)
  have hsz : Hid ((Tryz.prog.info? 26).map (·.size) = some (u8s ss).length) := by show _ = _; rw [length_ints, h48]; exact size_secret
  clear h48 hx
  go_enter Tryz.func23, Tryz.ntmps23
  have tok1 : True := trivial
  go_wp2_with (first
    | (clear tok1; refine st_new rfl (rn_box (cs := u8s ss) H rfl rfl rfl) ?_; clear H; intro b3 w1 hb3 H; have tok2 : True := trivial)
    | (clear tok2; refine st_val rfl (rn_loadAll (cs := u8s ss) H rfl rfl (.head _) rfl rfl hsz.out) ?_; have tok3 : True := trivial)
    | (clear tok3; go_at_call 9; refine (hb.out _).mono ?_; rintro e w2 ⟨rfl, h3⟩; have H2 := H.call0 h3; clear H h3; have H := H2; clear H2; have tok4 : True := trivial))
  have h1 := Lib.hid (H.end0 (by simpa using hb3))
  clear H
  go_ret2
  exact ⟨rfl, h1.out⟩
set_option maxRecDepth 100000 in
theorem hnew_l (w : World) (ss : List Int) (h48 : ss.length = 48) (k : Nat) (hk : k = 1 ∨ k = 2 ∨ k = 4 ∨ k = 8) (l : Int) (h1 : l ≠ 1) (h2 : l ≠ 2) :
    Calls Tryz.prog 23 #[.agg (u8s ss).toArray, .int .i64 k, .int .i64 l] w fun e w' => e = .returned (.tuple #[.pointer none, .int .i64 1]) ∧ Own w w' [] := by
  have H := Own.refl w
  have hb := Lib.hid (fun w' => lnew_any w' ss h48 k hk)
  have hmn := Lib.hid (fun w' => many_0 w' l h1 h2)
  have hsz : Hid ((Tryz.prog.info? 26).map (·.size) = some (u8s ss).length) := by show _ = _; rw [length_ints, h48]; exact size_secret
  clear h48 hk h1 h2
  go_enter Tryz.func23, Tryz.ntmps23
  have tok1 : True := trivial
  go_wp2_with (first
    | (clear tok1; refine st_new rfl (rn_box (cs := u8s ss) H rfl rfl rfl) ?_; clear H; intro b3 w1 hb3 H; have tok2 : True := trivial)
    | (clear tok2; refine st_val rfl (rn_loadAll (cs := u8s ss) H rfl rfl (.head _) rfl rfl hsz.out) ?_; have tok3 : True := trivial)
    | (clear tok3; go_at_call 9; refine (hb.out _).mono ?_; rintro e w2 ⟨bt, rfl, hbt, h3⟩; have H2 := H.call0 (h3.end0 (by simpa using hbt)); clear H h3; have H := H2; clear H2; have tok4 : True := trivial)
    | (clear tok4; go_at_call 25; refine (hmn.out _).mono ?_; rintro e w3 ⟨rfl, h3⟩; have H2 := H.call0 h3; clear H h3; have H := H2; clear H2; have tok5 : True := trivial))
  have h1 := Lib.hid (H.end0 (by simpa using hb3))
  clear H
  go_ret2
  exact ⟨rfl, h1.out⟩
theorem hpub_nil (w : World) : Calls Tryz.prog 27 #[.pointer none] w fun e w' => e = .returned (.slice none 0 0) ∧ Own w w' [] := by
  go_enter Tryz.func27, Tryz.ntmps27
  go_wp2
  go_ret
  exact ⟨rfl, Own.refl w⟩
set_option maxRecDepth 100000 in
theorem hsign_nil (w : World) (n : Int) (p : Option Addr) (m c : Nat) : Calls Tryz.prog 26 #[.pointer none, .int .i64 n, .slice p m c] w fun e w' => e = .returned (.tuple #[.slice none 0 0, .int .i64 1]) ∧ Own w w' [] := by
  have H := Own.refl w
  go_enter Tryz.func26, Tryz.ntmps26
  go_wp2_with (refine st_new rfl (rn_box (cs := [.slice p m c]) H rfl rfl rfl) ?_; clear H; intro b w1 hb H)
  have h1 := Lib.hid (H.end0 (by simpa using hb))
  clear H
  go_ret2
  exact ⟨rfl, h1.out⟩
set_option maxRecDepth 100000 in
set_option maxHeartbeats 8000000 in
theorem htold_any (w : World) : Calls Tryz.prog 22 #[] w fun e w' => e = .returned (.bool true) ∧ Own w w' [] := by
  have H := Own.refl w
  have h1 : Hid (∀ w', Calls Tryz.prog 23 #[.agg (u8s (List.replicate 48 0)).toArray, .int .i64 2, .int .i64 3] w' fun e w'' => e = .returned (.tuple #[.pointer none, .int .i64 1]) ∧ Own w' w'' []) := fun w' => hnew_l w' _ (by simp) 2 (by omega) 3 (by decide) (by decide)
  have h2 : Hid (∀ w', Calls Tryz.prog 23 #[.agg (u8s (List.replicate 48 0)).toArray, .int .i64 5, .int .i64 1] w' fun e w'' => e = .returned (.tuple #[.pointer none, .int .i64 1]) ∧ Own w' w'' []) := fun w' => hnew_w w' _ (by simp) 5 1 (by decide)
  have h3 := Lib.hid (fun w' => hsign_nil w' 0 none 0 0)
  have h4 := Lib.hid many_1
  have h5 := Lib.hid many_2
  have h6 := Lib.hid (fun w' => many_0 w' 0 (by decide) (by decide))
  have h7 := Lib.hid hpub_nil
  have h8 : Hid (∀ w', Calls Tryz.prog 30 #[.slice none 0 0, .slice none 0 0, .slice none 0 0] w' fun e w'' => e = .returned (.int .i64 2) ∧ Own w' w'' []) := fun w' => hver_len w' _ _ _ [] [] [] (old_nil w') isBytes_nil' (by simp) (by decide)
  go_enter Tryz.func22, Tryz.ntmps22
  have tok1 : True := trivial
  go_wp2_with (first
    | (clear tok1; go_at_call 23; refine (h1.out _).mono ?_; rintro e w1 ⟨rfl, h3⟩; have H2 := H.call0 h3; clear H h3; have H := H2; clear H2; have tok2 : True := trivial)
    | (clear tok2; go_at_call 23; refine (h2.out _).mono ?_; rintro e w2 ⟨rfl, h3⟩; have H2 := H.call0 h3; clear H h3; have H := H2; clear H2; have tok3 : True := trivial)
    | (clear tok3; go_at_call 26; refine (h3.out _).mono ?_; rintro e w3 ⟨rfl, h3⟩; have H2 := H.call0 h3; clear H h3; have H := H2; clear H2; have tok4 : True := trivial)
    | (clear tok4; go_at_call 25; refine (h4.out _).mono ?_; rintro e w4 ⟨rfl, h3⟩; have H2 := H.call0 h3; clear H h3; have H := H2; clear H2; have tok5 : True := trivial)
    | (clear tok5; go_at_call 25; refine (h5.out _).mono ?_; rintro e w5 ⟨rfl, h3⟩; have H2 := H.call0 h3; clear H h3; have H := H2; clear H2; have tok6 : True := trivial)
    | (clear tok6; go_at_call 25; refine (h6.out _).mono ?_; rintro e w6 ⟨rfl, h3⟩; have H2 := H.call0 h3; clear H h3; have H := H2; clear H2; have tok7 : True := trivial)
    | (clear tok7; go_at_call 27; refine (h7.out _).mono ?_; rintro e w7 ⟨rfl, h3⟩; have H2 := H.call0 h3; clear H h3; have H := H2; clear H2; have tok8 : True := trivial)
    | (clear tok8; go_at_call 30; refine (h8.out _).mono ?_; rintro e w8 ⟨rfl, h3⟩; have H2 := H.call0 h3; clear H h3; have H := H2; clear H2; have tok9 : True := trivial))
  have HE := Lib.hid H
  clear H
  go_ret
  exact ⟨rfl, HE.out⟩

end Go.Proofs.YtfihlmnbonnekaaGreat
