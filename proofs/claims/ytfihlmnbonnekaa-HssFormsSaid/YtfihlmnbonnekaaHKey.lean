/- hss: New, Public; chirographlaw5.told. -/
import Derived.Test.YtfihlmnbonnekaaHVer
namespace Go.Proofs.Ytfihlmnbonnekaa
open Go.RowKit

/-- what stands below a leaf, not made -/
def low0 : List Value := [.int .u32 0, .int .i32 0, .int .u32 0, .pointer none, .slice none 0 0, .slice none 0 0]
/-- .. made -/
def low1 (t p s : Value) : List Value := [.int .u32 1, .int .i32 0, .int .u32 0, t, p, s]
def lows0 : List Value := (List.replicate 32 low0).flatten
theorem length_lows0 : lows0.length = 192 := by kernel_rfl
/-- a key's cells -/
def keyC (ss : List Int) (k l : Int) (t : Value) (lows : List Value) : List Value := (u8s ss ++ [.int .i64 k, .int .i64 l, t]) ++ lows
theorem key_len {ss : List Int} {k l : Int} {t : Value} {lows : List Value} (h : ss.length = 48) (h2 : lows.length = 192) : (keyC ss k l t lows).length = 243 := by unfold keyC; simp [h, h2]
theorem key_s {ss : List Int} {k l : Int} {t : Value} {lows : List Value} {j : Nat} {v : Value} (hj : (u8s ss)[j]? = some v) : (keyC ss k l t lows)[j]? = some v := by
  have hl := (List.getElem?_eq_some_iff.1 hj).1
  unfold keyC
  rw [List.getElem?_append_left (by rw [List.length_append]; omega), List.getElem?_append_left hl]
  exact hj
theorem key_k {ss : List Int} {k l : Int} {t : Value} {lows : List Value} (h : ss.length = 48) : (keyC ss k l t lows)[48]? = some (.int .i64 k) ∧ (keyC ss k l t lows)[49]? = some (.int .i64 l) ∧ (keyC ss k l t lows)[50]? = some t := by
  have hl : (u8s ss).length = 48 := by rw [length_ints, h]
  unfold keyC
  refine ⟨?_, ?_, ?_⟩ <;> rw [List.getElem?_append_left (by rw [List.length_append, hl]; show _ < 48 + 3; decide), List.getElem?_append_right (by omega), hl] <;> rfl
theorem key_low {ss : List Int} {k l : Int} {t : Value} {lows : List Value} (h : ss.length = 48) (j : Nat) : (keyC ss k l t lows)[51 + j]? = lows[j]? := by
  have hl : (u8s ss ++ [.int .i64 k, .int .i64 l, t]).length = 51 := by rw [List.length_append, length_ints, h]; rfl
  unfold keyC
  rw [List.getElem?_append_right (by omega), hl, Nat.add_sub_cancel_left]
theorem info_hkey : ((Try.prog.info? 114).bind (·.zero)).map (fun z => z.cells.toList) = some (keyC (List.replicate 48 0) 0 0 (.pointer none) lows0) := by kernel_rfl
theorem key_fill {ss : List Int} {k l : Int} {t : Value} (hss : (u8s ss).length = 48) : fillL [(0, 48), (48, 1), (49, 1), (50, 1), (51, 192)] (keyC (List.replicate 48 0) 0 0 (.pointer none) lows0) [(0, u8s ss), (1, [.int .i64 k]), (2, [.int .i64 l]), (3, [t])] = some (keyC ss k l t lows0) := by
  have hz : (keyC (List.replicate 48 0) 0 0 (.pointer none) lows0).length = 243 := key_len (by simp) length_lows0
  have t49 : ∀ i, 48 ≤ i → (u8s ss).take i = u8s ss := fun i hi => List.take_of_length_le (by omega)
  have d49 : ∀ i, 48 ≤ i → (u8s ss).drop i = [] := fun i hi => List.drop_eq_nil_of_le (by omega)
  have e : ∀ k l t, keyC ss k l t lows0 = u8s ss ++ ([.int .i64 k, .int .i64 l, t] ++ lows0) := fun k l t => by unfold keyC; rw [List.append_assoc]
  refine fillL_cons (off := 0) (cs' := keyC ss 0 0 (.pointer none) lows0) (by rw [hss]; rfl) (by rw [hss, hz]; omega) ?_ (fillL_cons (off := 48) (cs' := keyC ss k 0 (.pointer none) lows0) rfl ?_ ?_ (fillL_cons (off := 49) (cs' := keyC ss k l (.pointer none) lows0) rfl ?_ ?_ (fillL_cons (off := 50) (cs' := keyC ss k l t lows0) rfl ?_ ?_ rfl)))
  · have e0 : keyC (List.replicate 48 0) 0 0 (.pointer none) lows0 = u8s (List.replicate 48 0) ++ ([.int .i64 0, .int .i64 0, .pointer none] ++ lows0) := by unfold keyC; rw [List.append_assoc]
    rw [e0, e]
    unfold splice
    rw [hss]
    simp [ints]
  all_goals
    rw [e]
  · simp at hss; simp [hss, length_lows0]
  · rw [e]; unfold splice; rw [List.take_left' hss, show (48 + [Value.int .i64 k].length) = 48 + 1 from rfl, List.drop_append, d49 _ (by decide)]; try rw [hss]
    try rw [t49 _ (by decide)]
    try rw [List.append_assoc (u8s ss)]
    rfl
  · simp at hss; simp [hss, length_lows0]
  · rw [e]; unfold splice; rw [List.take_append, hss, show (49 + [Value.int .i64 l].length) = 49 + 1 from rfl, List.drop_append, d49 _ (by decide)]; try rw [hss]
    try rw [t49 _ (by decide)]
    try rw [List.append_assoc (u8s ss)]
    rfl
  · simp at hss; simp [hss, length_lows0]
  · rw [e]; unfold splice; rw [List.take_append, hss, show (50 + [t].length) = 50 + 1 from rfl, List.drop_append, d49 _ (by decide)]; try rw [hss]
    try rw [t49 _ (by decide)]
    try rw [List.append_assoc (u8s ss)]
    rfl
set_option maxRecDepth 100000 in
theorem hnew_w (w : World) (ss : List Int) (h48 : ss.length = 48) (x l : Int) (hx : chainsOf x = 0) :
    Calls Try.prog 34 #[.agg (u8s ss).toArray, .int .i64 x, .int .i64 l] w fun e w' => e = .returned (.tuple #[.pointer none, .int .i64 1]) ∧ Own w w' [] := by
  have H := Own.refl w
  have hb := Lib.hid (fun w' => lnew_bad w' ss x hx)
  have hsz : Hid ((Try.prog.info? 30).map (·.size) = some (u8s ss).length) := by show _ = _; rw [length_ints, h48]; exact size_secret
  clear h48 hx
  go_enter Try.func34, Try.ntmps34
  have tok1 : True := trivial
  go_wp2_with (first
    | (clear tok1; refine st_new rfl (rn_box (cs := u8s ss) H rfl rfl rfl) ?_; clear H; intro b3 w1 hb3 H; have tok2 : True := trivial)
    | (clear tok2; refine st_val rfl (rn_loadAll (cs := u8s ss) H rfl rfl (.head _) rfl rfl hsz.out) ?_; have tok3 : True := trivial)
    | (clear tok3; go_at_call 27; refine (hb.out _).mono ?_; rintro e w2 ⟨rfl, h3⟩; have H2 := H.call0 h3; clear H h3; have H := H2; clear H2; have tok4 : True := trivial))
  have h1 := Lib.hid (H.end0 (by simpa using hb3))
  clear H
  go_ret2
  exact ⟨rfl, h1.out⟩
set_option maxRecDepth 100000 in
theorem hnew_l (w : World) (ss : List Int) (h48 : ss.length = 48) (k : Nat) (hk : k = 1 ∨ k = 2 ∨ k = 4 ∨ k = 8) (l : Int) (h1 : l ≠ 1) (h2 : l ≠ 2) :
    Calls Try.prog 34 #[.agg (u8s ss).toArray, .int .i64 k, .int .i64 l] w fun e w' => e = .returned (.tuple #[.pointer none, .int .i64 1]) ∧ Own w w' [] := by
  have H := Own.refl w
  have hb := Lib.hid (fun w' => lnew_any w' ss h48 k hk)
  have hmn := Lib.hid (fun w' => many_0 w' l h1 h2)
  have hsz : Hid ((Try.prog.info? 30).map (·.size) = some (u8s ss).length) := by show _ = _; rw [length_ints, h48]; exact size_secret
  clear h48 hk h1 h2
  go_enter Try.func34, Try.ntmps34
  have tok1 : True := trivial
  go_wp2_with (first
    | (clear tok1; refine st_new rfl (rn_box (cs := u8s ss) H rfl rfl rfl) ?_; clear H; intro b3 w1 hb3 H; have tok2 : True := trivial)
    | (clear tok2; refine st_val rfl (rn_loadAll (cs := u8s ss) H rfl rfl (.head _) rfl rfl hsz.out) ?_; have tok3 : True := trivial)
    | (clear tok3; go_at_call 27; refine (hb.out _).mono ?_; rintro e w2 ⟨bt, rfl, hbt, h3⟩; have H2 := H.call0 (h3.end0 (by simpa using hbt)); clear H h3; have H := H2; clear H2; have tok4 : True := trivial)
    | (clear tok4; go_at_call 64; refine (hmn.out _).mono ?_; rintro e w3 ⟨rfl, h3⟩; have H2 := H.call0 h3; clear H h3; have H := H2; clear H2; have tok5 : True := trivial))
  have h1 := Lib.hid (H.end0 (by simpa using hb3))
  clear H
  go_ret2
  exact ⟨rfl, h1.out⟩
set_option maxRecDepth 100000 in
set_option maxHeartbeats 4000000 in
theorem hnew_any (w : World) (ss : List Int) (h48 : ss.length = 48) (k : Nat) (hk : k = 1 ∨ k = 2 ∨ k = 4 ∨ k = 8) (l : Int) (hl : l = 1 ∨ l = 2) :
    Calls Try.prog 34 #[.agg (u8s ss).toArray, .int .i64 k, .int .i64 l] w fun e w' => ∃ kb tb, e = .returned (.tuple #[.pointer (some ⟨kb, 0, none⟩), .int .i64 0]) ∧ w.heap.size ≤ kb ∧ w.heap.size ≤ tb ∧ Own w w' [(kb, keyC ss k l (.pointer (some ⟨tb, 0, none⟩)) lows0, 114), (tb, treeG ss k 0 0 (List.replicate 2048 0) 0, 104)] := by
  have H := Own.refl w
  have hb := Lib.hid (fun w' => lnew_any w' ss h48 k hk)
  have hmn : Hid (∀ w', ∃ z, z ≠ 0 ∧ Calls Try.prog 64 #[.int .i64 l] w' fun e w'' => e = .returned (.int .i64 z) ∧ Own w' w'' []) := fun w' => by
    rcases hl with rfl | rfl
    · exact ⟨32, by decide, many_1 w'⟩
    · exact ⟨1024, by decide, many_2 w'⟩
  have hsz : Hid ((Try.prog.info? 30).map (·.size) = some (u8s ss).length) := by show _ = _; rw [length_ints, h48]; exact size_secret
  have hs8 : Hid ((u8s ss).length = 48) := by show _ = _; rw [length_ints, h48]
  clear h48 hk hl
  go_enter Try.func34, Try.ntmps34
  have tok1 : True := trivial
  go_wp2_with (first
    | (clear tok1; refine st_new rfl (rn_box (cs := u8s ss) H rfl rfl rfl) ?_; clear H; intro b3 w1 hb3 H; have tok2 : True := trivial)
    | (clear tok2; refine st_val rfl (rn_loadAll (cs := u8s ss) H rfl rfl (.head _) rfl rfl hsz.out) ?_; have tok3 : True := trivial)
    | (clear tok3; go_at_call 27; refine (hb.out _).mono ?_; rintro e w2 ⟨bt, rfl, hbt, h3⟩; have hbt0 := Nat.le_trans H.size hbt; have H2 := H.callNew h3 hbt; clear H h3; have H := H2; clear H2; obtain ⟨z, hz, hm⟩ := hmn.out w2; have hz1 : (z == 0) = false := (by simpa using hz); have hm' := Lib.hid hm; clear hm hz; have tok4 : True := trivial)
    | (clear tok4; go_at_call 64; refine (hm'.out).mono ?_; rintro e w3 ⟨rfl, h3⟩; have H2 := H.call0 h3; clear H h3; have H := H2; clear H2; have tok5 : True := trivial)
    | (refine st_val rfl (rn_loadAll (cs := u8s ss) H rfl rfl (.tail _ (.head _)) rfl rfl hsz.out) ?_)
    | (clear tok5; refine st_val rfl (rn_buildS (r := keyC ss k l (.pointer (some ⟨bt, 0, none⟩)) lows0) rfl rfl info_hkey (by kernel_rfl) (key_fill hs8.out)) ?_; have tok6 : True := trivial)
    | (clear tok6; refine st_new rfl (rn_box (cs := keyC ss k l (.pointer (some ⟨bt, 0, none⟩)) lows0) H rfl rfl rfl) ?_; clear H; intro kb w4 hkb H; have tok7 : True := trivial))
  have h1 := Lib.hid (Own.dropR (L1 := [_, _]) H (by simpa using hb3))
  clear H
  go_ret2
  exact ⟨_, _, rfl, hkb, hbt0, h1.out⟩
theorem hpub_nil (w : World) : Calls Try.prog 36 #[.pointer none] w fun e w' => e = .returned (.slice none 0 0) ∧ Own w w' [] := by
  go_enter Try.func36, Try.ntmps36
  go_wp2
  go_ret
  exact ⟨rfl, Own.refl w⟩
set_option maxRecDepth 100000 in
theorem hsign_nil (w : World) (n : Int) (p : Option Addr) (m c : Nat) : Calls Try.prog 35 #[.pointer none, .int .i64 n, .slice p m c] w fun e w' => e = .returned (.tuple #[.slice none 0 0, .int .i64 1]) ∧ Own w w' [] := by
  have H := Own.refl w
  go_enter Try.func35, Try.ntmps35
  go_wp2_with (refine st_new rfl (rn_box (cs := [.slice p m c]) H rfl rfl rfl) ?_; clear H; intro b w1 hb H)
  have h1 := Lib.hid (H.end0 (by simpa using hb))
  clear H
  go_ret2
  exact ⟨rfl, h1.out⟩
set_option maxRecDepth 100000 in
set_option maxHeartbeats 8000000 in
theorem htold_any (w : World) : Calls Try.prog 32 #[] w fun e w' => e = .returned (.bool true) ∧ Own w w' [] := by
  have H := Own.refl w
  have h1 : Hid (∀ w', Calls Try.prog 34 #[.agg (u8s (List.replicate 48 0)).toArray, .int .i64 2, .int .i64 3] w' fun e w'' => e = .returned (.tuple #[.pointer none, .int .i64 1]) ∧ Own w' w'' []) := fun w' => hnew_l w' _ (by simp) 2 (by omega) 3 (by decide) (by decide)
  have h2 : Hid (∀ w', Calls Try.prog 34 #[.agg (u8s (List.replicate 48 0)).toArray, .int .i64 5, .int .i64 1] w' fun e w'' => e = .returned (.tuple #[.pointer none, .int .i64 1]) ∧ Own w' w'' []) := fun w' => hnew_w w' _ (by simp) 5 1 (by decide)
  have h3 := Lib.hid (fun w' => hsign_nil w' 0 none 0 0)
  have h4 := Lib.hid many_1
  have h5 := Lib.hid many_2
  have h6 := Lib.hid (fun w' => many_0 w' 0 (by decide) (by decide))
  have h7 := Lib.hid hpub_nil
  have h8 : Hid (∀ w', Calls Try.prog 37 #[.slice none 0 0, .slice none 0 0, .slice none 0 0] w' fun e w'' => e = .returned (.int .i64 2) ∧ Own w' w'' []) := fun w' => hver_len w' _ _ _ [] [] [] (old_nil w') isBytes_nil' (by simp) (by decide)
  go_enter Try.func32, Try.ntmps32
  have tok1 : True := trivial
  go_wp2_with (first
    | (clear tok1; go_at_call 34; refine (h1.out _).mono ?_; rintro e w1 ⟨rfl, h3⟩; have H2 := H.call0 h3; clear H h3; have H := H2; clear H2; have tok2 : True := trivial)
    | (clear tok2; go_at_call 34; refine (h2.out _).mono ?_; rintro e w2 ⟨rfl, h3⟩; have H2 := H.call0 h3; clear H h3; have H := H2; clear H2; have tok3 : True := trivial)
    | (clear tok3; go_at_call 35; refine (h3.out _).mono ?_; rintro e w3 ⟨rfl, h3⟩; have H2 := H.call0 h3; clear H h3; have H := H2; clear H2; have tok4 : True := trivial)
    | (clear tok4; go_at_call 64; refine (h4.out _).mono ?_; rintro e w4 ⟨rfl, h3⟩; have H2 := H.call0 h3; clear H h3; have H := H2; clear H2; have tok5 : True := trivial)
    | (clear tok5; go_at_call 64; refine (h5.out _).mono ?_; rintro e w5 ⟨rfl, h3⟩; have H2 := H.call0 h3; clear H h3; have H := H2; clear H2; have tok6 : True := trivial)
    | (clear tok6; go_at_call 64; refine (h6.out _).mono ?_; rintro e w6 ⟨rfl, h3⟩; have H2 := H.call0 h3; clear H h3; have H := H2; clear H2; have tok7 : True := trivial)
    | (clear tok7; go_at_call 36; refine (h7.out _).mono ?_; rintro e w7 ⟨rfl, h3⟩; have H2 := H.call0 h3; clear H h3; have H := H2; clear H2; have tok8 : True := trivial)
    | (clear tok8; go_at_call 37; refine (h8.out _).mono ?_; rintro e w8 ⟨rfl, h3⟩; have H2 := H.call0 h3; clear H h3; have H := H2; clear H2; have tok9 : True := trivial))
  have HE := Lib.hid H
  clear H
  go_ret
  exact ⟨rfl, HE.out⟩

end Go.Proofs.Ytfihlmnbonnekaa
