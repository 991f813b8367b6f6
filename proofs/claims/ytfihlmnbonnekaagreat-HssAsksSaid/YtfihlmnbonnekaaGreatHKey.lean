/- hss: New, Public; chirographlaw5.told. -/
import Derived.Test.YtfihlmnbonnekaaGreatHVer
namespace Go.Proofs.YtfihlmnbonnekaaGreat
open Go.RowKit
set_option maxHeartbeats 32000000
def low0 : List Value := [.int .u32 0, .int .i32 0, .int .u32 0, .pointer none, .slice none 0 0, .slice none 0 0]
def lows0 : List Value := (List.replicate 32 low0).flatten
theorem length_lows0 : lows0.length = 192 := by kernel_rfl
def keyC (ss : List Int) (k l : Int) (t : Value) (lows : List Value) : List Value := (u8s ss ++ [.int .i64 k, .int .i64 l, t]) ++ lows
theorem key_len {ss : List Int} {k l : Int} {t : Value} {lows : List Value} (h : ss.length = 48) (h2 : lows.length = 192) : (keyC ss k l t lows).length = 243 := by unfold keyC; simp [h, h2]
theorem key_k {ss : List Int} {k l : Int} {t : Value} {lows : List Value} (h : ss.length = 48) : (keyC ss k l t lows)[48]? = some (.int .i64 k) ∧ (keyC ss k l t lows)[49]? = some (.int .i64 l) ∧ (keyC ss k l t lows)[50]? = some t := by
 have hl : (u8s ss).length = 48 := by rw [length_ints, h]
 unfold keyC
 refine ⟨?_, ?_, ?_⟩ <;> rw [List.getElem?_append_left (by rw [List.length_append, hl]; show _ < 48 + 3; decide), List.getElem?_append_right (by omega), hl] <;> rfl
theorem info_hkey : ((Tryz.prog.info? 98).bind (·.zero)).map (fun z => z.cells.toList) = some (keyC (List.replicate 48 0) 0 0 (.pointer none) lows0) := by kernel_rfl
theorem key_fill {ss : List Int} {k l : Int} {t : Value} (hss : (u8s ss).length = 48) : fillL [(0, 48), (48, 1), (49, 1), (50, 1), (51, 192)] (keyC (List.replicate 48 0) 0 0 (.pointer none) lows0) [(0, u8s ss), (1, [.int .i64 k]), (2, [.int .i64 l]), (3, [t])] = some (keyC ss k l t lows0) := by
 have hz : (keyC (List.replicate 48 0) 0 0 (.pointer none) lows0).length = 243 := key_len (by simp) length_lows0
 have t49 : ∀ i, 48 ≤ i → (u8s ss).take i = u8s ss := fun i hi => List.take_of_length_le (by omega)
 have d49 : ∀ i, 48 ≤ i → (u8s ss).drop i = [] := fun i hi => List.drop_eq_nil_of_le (by omega)
 have e : ∀ k l t, keyC ss k l t lows0 = u8s ss ++ ([.int .i64 k, .int .i64 l, t] ++ lows0) := fun k l t => by unfold keyC; rw [List.append_assoc]
 refine fillL_cons (off := 0) (cs' := keyC ss 0 0 (.pointer none) lows0) (by rw [hss]; rfl) (by rw [hss, hz]; omega) ?_ (fillL_cons (off := 48) (cs' := keyC ss k 0 (.pointer none) lows0) rfl ?_ ?_ (fillL_cons (off := 49) (cs' := keyC ss k l (.pointer none) lows0) rfl ?_ ?_ (fillL_cons (off := 50) (cs' := keyC ss k l t lows0) rfl ?_ ?_ rfl)))
 · have e0 : keyC (List.replicate 48 0) 0 0 (.pointer none) lows0 = u8s (List.replicate 48 0) ++ ([.int .i64 0, .int .i64 0, .pointer none] ++ lows0) := by unfold keyC; rw [List.append_assoc]
   rw [e0, e]
   unfold splice
   rw [hss]
   simp [ints]
 all_goals
  rw [e]
 · simp at hss; simp [hss, length_lows0]
 · rw [e]; unfold splice; rw [List.take_left' hss, show (48 + [Value.int .i64 k].length) = 48 + 1 from rfl, List.drop_append, d49 _ (by decide)]; try rw [hss]
   try rw [t49 _ (by decide)]
   try rw [List.append_assoc (u8s ss)]
   rfl
 · simp at hss; simp [hss, length_lows0]
 · rw [e]; unfold splice; rw [List.take_append, hss, show (49 + [Value.int .i64 l].length) = 49 + 1 from rfl, List.drop_append, d49 _ (by decide)]; try rw [hss]
   try rw [t49 _ (by decide)]
   try rw [List.append_assoc (u8s ss)]
   rfl
 · simp at hss; simp [hss, length_lows0]
 · rw [e]; unfold splice; rw [List.take_append, hss, show (50 + [t].length) = 50 + 1 from rfl, List.drop_append, d49 _ (by decide)]; try rw [hss]
   try rw [t49 _ (by decide)]
   try rw [List.append_assoc (u8s ss)]
   rfl
set_option maxRecDepth 100000 in
theorem hnew_w (w : World) (ss : List Int) (h48 : ss.length = 48) (x l : Int) (hx : chainsOf x = 0) :
 Calls Tryz.prog 23 #[.agg (u8s ss).toArray, .int .i64 x, .int .i64 l] w fun e w' => e = .returned (.tuple #[.pointer none, .int .i64 1]) ∧ Own w w' [] := by
 have H := Own.refl w
 have hb := Hh (fun w' => lnew_bad w' ss x hx)
 have hsz : Hid ((Tryz.prog.info? 26).map (·.size) = some (u8s ss).length) := by show _ = _; rw [length_ints, h48]; exact size_secret
 clear h48 hx
 go_enter Tryz.func23, Tryz.ntmps23
 have z1 := tt
 go_wp2_with (first
  | (clear z1; refine st_new rfl (rn_box (cs := u8s ss) H rfl rfl rfl) ?_; clear H; intro b3 w1 hb3 H; have z2 := tt)
  | (clear z2; refine st_val rfl (rn_loadAll (cs := u8s ss) H rfl rfl (.head _) rfl rfl hsz.out) ?_; have z3 := tt)
  | (clear z3; go_at_call 9; refine (hb.out _).mono ?_; rintro e w2 ⟨rfl, h3⟩; replace H := H.call0 h3; clear h3; have z4 := tt))
 have h1 := Hh (H.end0 (by simpa using hb3))
 clear H
 go_ret2
 exact ⟨rfl, h1.out⟩
set_option maxRecDepth 100000 in
theorem hnew_l (w : World) (ss : List Int) (h48 : ss.length = 48) (k : Nat) (hk : k = 1 ∨ k = 2 ∨ k = 4 ∨ k = 8) (l : Int) (h1 : l ≠ 1) (h2 : l ≠ 2) :
 Calls Tryz.prog 23 #[.agg (u8s ss).toArray, .int .i64 k, .int .i64 l] w fun e w' => e = .returned (.tuple #[.pointer none, .int .i64 1]) ∧ Own w w' [] := by
 have H := Own.refl w
 have hb := Hh (fun w' => lnew_any w' ss h48 k hk)
 have hmn := Hh (fun w' => many_0 w' l h1 h2)
 have hsz : Hid ((Tryz.prog.info? 26).map (·.size) = some (u8s ss).length) := by show _ = _; rw [length_ints, h48]; exact size_secret
 clear h48 hk h1 h2
 go_enter Tryz.func23, Tryz.ntmps23
 have z1 := tt
 go_wp2_with (first
  | (clear z1; refine st_new rfl (rn_box (cs := u8s ss) H rfl rfl rfl) ?_; clear H; intro b3 w1 hb3 H; have z2 := tt)
  | (clear z2; refine st_val rfl (rn_loadAll (cs := u8s ss) H rfl rfl (.head _) rfl rfl hsz.out) ?_; have z3 := tt)
  | (clear z3; go_at_call 9; refine (hb.out _).mono ?_; rintro e w2 ⟨bt, rfl, hbt, h3⟩; replace H := H.call0 (h3.end0 (by simpa using hbt)); clear h3; have z4 := tt)
  | (clear z4; go_at_call 25; refine (hmn.out _).mono ?_; rintro e w3 ⟨rfl, h3⟩; replace H := H.call0 h3; clear h3; have z5 := tt))
 have h1 := Hh (H.end0 (by simpa using hb3))
 clear H
 go_ret2
 exact ⟨rfl, h1.out⟩
set_option maxRecDepth 100000 in
theorem hnew_any (w : World) (ss : List Int) (h48 : ss.length = 48) (k : Nat) (hk : k = 1 ∨ k = 2 ∨ k = 4 ∨ k = 8) (l : Int) (hl : l = 1 ∨ l = 2) :
 Calls Tryz.prog 23 #[.agg (u8s ss).toArray, .int .i64 k, .int .i64 l] w fun e w' => ∃ kb tb, e = .returned (.tuple #[.pointer (some ⟨kb, 0, none⟩), .int .i64 0]) ∧ w.heap.size ≤ kb ∧ w.heap.size ≤ tb ∧ Own w w' [(kb, keyC ss k l (.pointer (some ⟨tb, 0, none⟩)) lows0, 98), (tb, treeG ss k 0 0 (List.replicate 2048 0) 0, 74)] := by
 have H := Own.refl w
 have hb := Hh (fun w' => lnew_any w' ss h48 k hk)
 have hmn : Hid (∀ w', ∃ z, z ≠ 0 ∧ Calls Tryz.prog 25 #[.int .i64 l] w' fun e w'' => e = .returned (.int .i64 z) ∧ Own w' w'' []) := fun w' => by
  rcases hl with rfl | rfl
  · exact ⟨32, by decide, many_1 w'⟩
  · exact ⟨1024, by decide, many_2 w'⟩
 have hsz : Hid ((Tryz.prog.info? 26).map (·.size) = some (u8s ss).length) := by show _ = _; rw [length_ints, h48]; exact size_secret
 have hs8 : Hid ((u8s ss).length = 48) := by show _ = _; rw [length_ints, h48]
 clear h48 hk hl
 go_enter Tryz.func23, Tryz.ntmps23
 have z1 := tt
 go_wp2_with (first
  | (clear z1; refine st_new rfl (rn_box (cs := u8s ss) H rfl rfl rfl) ?_; clear H; intro b3 w1 hb3 H; have z2 := tt)
  | (clear z2; refine st_val rfl (rn_loadAll (cs := u8s ss) H rfl rfl (.head _) rfl rfl hsz.out) ?_; have z3 := tt)
  | (clear z3; go_at_call 9; refine (hb.out _).mono ?_; rintro e w2 ⟨bt, rfl, hbt, h3⟩; have hbt0 := Nat.le_trans H.size hbt; replace H := H.callNew h3 hbt; clear h3; obtain ⟨z, hz, hm⟩ := hmn.out w2; have hz1 : (z == 0) = false := (by simpa using hz); have hm' := Hh hm; clear hm hz; have z4 := tt)
  | (clear z4; go_at_call 25; refine (hm'.out).mono ?_; rintro e w3 ⟨rfl, h3⟩; replace H := H.call0 h3; clear h3; have z5 := tt)
  | (refine st_val rfl (rn_loadAll (cs := u8s ss) H rfl rfl (.tail _ (.head _)) rfl rfl hsz.out) ?_)
  | (clear z5; refine st_val rfl (rn_buildS (r := keyC ss k l (.pointer (some ⟨bt, 0, none⟩)) lows0) rfl rfl info_hkey (by kernel_rfl) (key_fill hs8.out)) ?_; have z6 := tt)
  | (clear z6; refine st_new rfl (rn_box (cs := keyC ss k l (.pointer (some ⟨bt, 0, none⟩)) lows0) H rfl rfl rfl) ?_; clear H; intro kb w4 hkb H; have z7 := tt))
 have h1 := Hh (Own.dropR (L1 := [_, _]) H (by simpa using hb3))
 clear H
 go_ret2
 exact ⟨_, _, rfl, hkb, hbt0, h1.out⟩
theorem hpub_nil (w : World) : Calls Tryz.prog 27 #[.pointer none] w fun e w' => e = .returned (.slice none 0 0) ∧ Own w w' [] := by
 go_enter Tryz.func27, Tryz.ntmps27
 go_wp2
 go_ret
 exact ⟨rfl, Own.refl w⟩
set_option maxRecDepth 100000 in
theorem hsign_nil (w : World) (n : Int) (p : Option Addr) (m c : Nat) : Calls Tryz.prog 26 #[.pointer none, .int .i64 n, .slice p m c] w fun e w' => e = .returned (.tuple #[.slice none 0 0, .int .i64 1]) ∧ Own w w' [] := by
 have H := Own.refl w
 go_enter Tryz.func26, Tryz.ntmps26
 go_wp2_with (refine st_new rfl (rn_box (cs := [.slice p m c]) H rfl rfl rfl) ?_; clear H; intro b w1 hb H)
 have h1 := Hh (H.end0 (by simpa using hb))
 clear H
 go_ret2
 exact ⟨rfl, h1.out⟩
set_option maxRecDepth 100000 in
theorem htold_any (w : World) : Calls Tryz.prog 22 #[] w fun e w' => e = .returned (.bool true) ∧ Own w w' [] := by
 have H := Own.refl w
 have h1 : Hid (∀ w', Calls Tryz.prog 23 #[.agg (u8s (List.replicate 48 0)).toArray, .int .i64 2, .int .i64 3] w' fun e w'' => e = .returned (.tuple #[.pointer none, .int .i64 1]) ∧ Own w' w'' []) := fun w' => hnew_l w' _ (by simp) 2 (by omega) 3 (by decide) (by decide)
 have h2 : Hid (∀ w', Calls Tryz.prog 23 #[.agg (u8s (List.replicate 48 0)).toArray, .int .i64 5, .int .i64 1] w' fun e w'' => e = .returned (.tuple #[.pointer none, .int .i64 1]) ∧ Own w' w'' []) := fun w' => hnew_w w' _ (by simp) 5 1 (by decide)
 have h3 := Hh (fun w' => hsign_nil w' 0 none 0 0)
 have h4 := Hh many_1
 have h5 := Hh many_2
 have h6 := Hh (fun w' => many_0 w' 0 (by decide) (by decide))
 have h7 := Hh hpub_nil
 have h8 : Hid (∀ w', Calls Tryz.prog 30 #[.slice none 0 0, .slice none 0 0, .slice none 0 0] w' fun e w'' => e = .returned (.int .i64 2) ∧ Own w' w'' []) := fun w' => hver_len w' _ _ _ [] [] [] (old_nil w') isBytes_nil' (by simp) (by decide)
 go_enter Tryz.func22, Tryz.ntmps22
 have z1 := tt
 go_wp2_with (first
  | (clear z1; go_at_call 23; refine (h1.out _).mono ?_; rintro e w1 ⟨rfl, h3⟩; replace H := H.call0 h3; clear h3; have z2 := tt)
  | (clear z2; go_at_call 23; refine (h2.out _).mono ?_; rintro e w2 ⟨rfl, h3⟩; replace H := H.call0 h3; clear h3; have z3 := tt)
  | (clear z3; go_at_call 26; refine (h3.out _).mono ?_; rintro e w3 ⟨rfl, h3⟩; replace H := H.call0 h3; clear h3; have z4 := tt)
  | (clear z4; go_at_call 25; refine (h4.out _).mono ?_; rintro e w4 ⟨rfl, h3⟩; replace H := H.call0 h3; clear h3; have z5 := tt)
  | (clear z5; go_at_call 25; refine (h5.out _).mono ?_; rintro e w5 ⟨rfl, h3⟩; replace H := H.call0 h3; clear h3; have z6 := tt)
  | (clear z6; go_at_call 25; refine (h6.out _).mono ?_; rintro e w6 ⟨rfl, h3⟩; replace H := H.call0 h3; clear h3; have z7 := tt)
  | (clear z7; go_at_call 27; refine (h7.out _).mono ?_; rintro e w7 ⟨rfl, h3⟩; replace H := H.call0 h3; clear h3; have z8 := tt)
  | (clear z8; go_at_call 30; refine (h8.out _).mono ?_; rintro e w8 ⟨rfl, h3⟩; replace H := H.call0 h3; clear h3; have z9 := tt))
 have HE := Hh H
 clear H
 go_ret
 exact ⟨rfl, HE.out⟩
end Go.Proofs.YtfihlmnbonnekaaGreat
