/- ots: one digit: ots.Digits$1 and the document's coef. And what stands on it. No condition. -/
import Derived.Test.YtfihlmnbonnekaaGreatMa
import Derived.Test.YtfihlmnbonnekaaGreatEffA
import Derived.Laws.BitsAllLaws
import Derived.Test.YtfihlmnbonnekaaGreatMb
namespace Go.Proofs.YtfihlmnbonnekaaGreat
open Go.RowKit
set_option maxHeartbeats 32000000
def dg (bs : List Int) (i w : Nat) : Int := bs[i * w / 8]?.getD 0 / 2 ^ (8 - w - i * w % 8) % 2 ^ w
theorem and_i64 {z : Int} (k : Nat) (m : Int) (hm : m = ((2 ^ k - 1 : Nat) : Int)) (h0 : 0 ≤ z) (h1 : z < 256) (hk : k ≤ 8) : bits .and .i64 z m = z % 2 ^ k := by
 subst hm
 obtain ⟨A, rfl⟩ := Int.eq_ofNat_of_zero_le h0
 have hA : A < 256 := by omega
 have hp : 2 ^ k - 1 < 18446744073709551616 := by have : 2 ^ k ≤ 2 ^ 8 := Nat.pow_le_pow_right (by omega) hk; omega
 show IntKind.i64.wrap ((BitVec.ofInt 64 (A : Int) &&& BitVec.ofInt 64 ((2 ^ k - 1 : Nat) : Int)).toNat : Int) = _
 have h2 : ((2 : Int) ^ k) = ((2 ^ k : Nat) : Int) := by simp
 have h3 : A % 2 ^ k ≤ A := Nat.mod_le _ _
 rw [BitVec.toNat_and, BitVec.ofInt_natCast, BitVec.ofInt_natCast, BitVec.toNat_ofNat, BitVec.toNat_ofNat, Nat.mod_eq_of_lt (show A < 2 ^ 64 by omega), Nat.mod_eq_of_lt hp, Nat.and_two_pow_sub_one_eq_mod, IntKind.wrap_i64, h2, ← Int.natCast_emod]
 omega
theorem div_pow {z : Int} (a : Nat) (h0 : 0 ≤ z) (h1 : z < 256) : 0 ≤ z / 2 ^ a ∧ z / 2 ^ a < 256 := by
 have h : (1 : Int) ≤ 2 ^ a := by have := Int.pow_pos (n := 2) (m := a) (by omega); omega
 exact ⟨Int.ediv_nonneg h0 (by omega), Int.lt_of_le_of_lt (Int.ediv_le_self _ h0) h1⟩
theorem wrap64_id {z : Int} (h0 : 0 ≤ z) (h1 : z < 256) : wrap64 z = z := by unfold wrap64; omega
theorem dg_range {bs : List Int} {i w : Nat} : 0 ≤ dg bs i w ∧ dg bs i w < 2 ^ w := by
 have h : (0 : Int) < 2 ^ w := Int.pow_pos (by omega)
 exact ⟨Int.emod_nonneg _ (by omega), Int.emod_lt_of_pos _ h⟩
theorem byte_of {w : World} {b off c n : Nat} {bs : List Int} {i : Nat} (h : BytesAt w (.slice (some ⟨b, off, none⟩) n c) bs) (hi : i < bs.length) : w.cell? ⟨b, off + i, none⟩ = some (.int .u8 (bs[i]?.getD 0)) := by
 rcases h with ⟨_, h0, _⟩ | ⟨b2, o2, c2, h1, _, h3⟩
 · rw [h0] at hi
   have : (u8s bs).length = 0 := by omega
   simp at this
   omega
 · cases h1
   exact h3 i _ (ints_get hi)
set_option maxRecDepth 100000 in
theorem digit_1 (w : World) (i p1 p2 b off n c : Nat) (bs : List Int) (hi : i ≤ 300) (hj : i * 1 / 8 < n) (hn : n = bs.length) (hr : IsBytes bs)
 (h1 : ∀ w', Own w w' [] → w'.cell? ⟨p1, 0, none⟩ = some (.slice (some ⟨b, off, none⟩) n c)) (h2 : ∀ w', Own w w' [] → w'.cell? ⟨p2, 0, none⟩ = some (.int .i64 1)) (h3 : ∀ w', Own w w' [] → BytesAt w' (.slice (some ⟨b, off, none⟩) n c) bs) :
 Calls Tryz.prog 93 #[.int .i64 i, .pointer (some ⟨p1, 0, none⟩), .pointer (some ⟨p2, 0, none⟩)] w fun e w' => e = .returned (.int .i64 (dg bs i 1)) ∧ Own w w' [] := by
 have H := Own.refl w
 have h1' := Hh h1
 have h2' := Hh h2
 obtain ⟨z, hz⟩ : ∃ z, z = bs[i * 1 / 8]?.getD 0 := ⟨_, rfl⟩
 have hz01 : 0 ≤ z ∧ z < 256 := by rw [hz]; exact hr _ (by omega)
 have hc : Hid (∀ w', Own w w' [] → w'.cell? ⟨b, off + i / 8, none⟩ = some (.int .u8 z)) := fun w' h => by have e := byte_of (i := i * 1 / 8) (h3 w' h) (by omega); have q : i * 1 / 8 = i / 8 := (by omega); rw [← hz, q] at e; exact e
 have hd : Hid (dg bs i 1 = z / 2 ^ (8 - 1 - i * 1 % 8) % 2 ^ 1) := by show _ = _; rw [hz]; rfl
 obtain ⟨d, hdd⟩ : ∃ d, d = dg bs i 1 := ⟨_, rfl⟩
 rw [← hdd] at hd ⊢
 have hw : ∀ m, Own w (w.drewN m) [] := fun m => H.drewN m
 clear h1 h2 h3 hr hn hz hdd
 go_enter Tryz.func93, Tryz.ntmps93
 go_wp2_with fail
 refine region_drew 22 (by kernel_rfl) (by kernel_rfl) (by kernel_rfl) ?_
 simp only [List.take_succ_cons, List.take_zero, List.drop_succ_cons, List.drop_zero]
 repeat (first
  | (refine qd_val rfl (fun m => rn_cell rfl rfl rfl rfl (h1'.out _ (hw m))) ?_; go_frame)
  | (refine qd_val rfl (fun m => rn_cell rfl rfl rfl rfl (h2'.out _ (hw m))) ?_; go_frame)
  | (refine qd_val rfl (fun m => rn_cell rfl rfl rfl rfl (hc.out _ (hw m))) ?_; go_frame)
  | go_big_quiet_step (fail))
 refine wpQuiet_nil ?_
 rintro w' hw'
 have H' := Hh (show Own w w' [] by obtain ⟨m, rfl⟩ := hw'; exact hw m)
 clear hw' H
 go_wp2_with fail
 go_ret
 refine ⟨congrArg (fun q => Ending.returned (.int .i64 q)) ?_, H'.out⟩
 obtain ⟨g1, g2⟩ := div_pow (7 - i % 8) hz01.1 hz01.2
 rw [hd.out]
 rw [Nat.mul_one]
 exact and_i64 1 1 rfl g1 g2 (by omega)
set_option maxRecDepth 100000 in
theorem digit_2 (w : World) (i p1 p2 b off n c : Nat) (bs : List Int) (hi : i ≤ 300) (hj : i * 2 / 8 < n) (hn : n = bs.length) (hr : IsBytes bs)
 (h1 : ∀ w', Own w w' [] → w'.cell? ⟨p1, 0, none⟩ = some (.slice (some ⟨b, off, none⟩) n c)) (h2 : ∀ w', Own w w' [] → w'.cell? ⟨p2, 0, none⟩ = some (.int .i64 2)) (h3 : ∀ w', Own w w' [] → BytesAt w' (.slice (some ⟨b, off, none⟩) n c) bs) :
 Calls Tryz.prog 93 #[.int .i64 i, .pointer (some ⟨p1, 0, none⟩), .pointer (some ⟨p2, 0, none⟩)] w fun e w' => e = .returned (.int .i64 (dg bs i 2)) ∧ Own w w' [] := by
 have H := Own.refl w
 have h1' := Hh h1
 have h2' := Hh h2
 obtain ⟨z, hz⟩ : ∃ z, z = bs[i * 2 / 8]?.getD 0 := ⟨_, rfl⟩
 have hz01 : 0 ≤ z ∧ z < 256 := by rw [hz]; exact hr _ (by omega)
 have hc : Hid (∀ w', Own w w' [] → w'.cell? ⟨b, off + i * 2 / 8, none⟩ = some (.int .u8 z)) := fun w' h => by have e := byte_of (i := i * 2 / 8) (h3 w' h) (by omega); have q : i * 2 / 8 = i * 2 / 8 := (by omega); rw [← hz, q] at e; exact e
 have hd : Hid (dg bs i 2 = z / 2 ^ (8 - 2 - i * 2 % 8) % 2 ^ 2) := by show _ = _; rw [hz]; rfl
 obtain ⟨d, hdd⟩ : ∃ d, d = dg bs i 2 := ⟨_, rfl⟩
 rw [← hdd] at hd ⊢
 have hw : ∀ m, Own w (w.drewN m) [] := fun m => H.drewN m
 clear h1 h2 h3 hr hn hz hdd
 go_enter Tryz.func93, Tryz.ntmps93
 go_wp2_with fail
 refine region_drew 22 (by kernel_rfl) (by kernel_rfl) (by kernel_rfl) ?_
 simp only [List.take_succ_cons, List.take_zero, List.drop_succ_cons, List.drop_zero]
 repeat (first
  | (refine qd_val rfl (fun m => rn_cell rfl rfl rfl rfl (h1'.out _ (hw m))) ?_; go_frame)
  | (refine qd_val rfl (fun m => rn_cell rfl rfl rfl rfl (h2'.out _ (hw m))) ?_; go_frame)
  | (refine qd_val rfl (fun m => rn_cell rfl rfl rfl rfl (hc.out _ (hw m))) ?_; go_frame)
  | go_big_quiet_step (fail))
 refine wpQuiet_nil ?_
 rintro w' hw'
 have H' := Hh (show Own w w' [] by obtain ⟨m, rfl⟩ := hw'; exact hw m)
 clear hw' H
 go_wp2_with fail
 go_ret
 refine ⟨congrArg (fun q => Ending.returned (.int .i64 q)) ?_, H'.out⟩
 obtain ⟨g1, g2⟩ := div_pow (6 - i * 2 % 8) hz01.1 hz01.2
 rw [hd.out]
 exact and_i64 2 3 rfl g1 g2 (by omega)
set_option maxRecDepth 100000 in
theorem digit_4 (w : World) (i p1 p2 b off n c : Nat) (bs : List Int) (hi : i ≤ 300) (hj : i * 4 / 8 < n) (hn : n = bs.length) (hr : IsBytes bs)
 (h1 : ∀ w', Own w w' [] → w'.cell? ⟨p1, 0, none⟩ = some (.slice (some ⟨b, off, none⟩) n c)) (h2 : ∀ w', Own w w' [] → w'.cell? ⟨p2, 0, none⟩ = some (.int .i64 4)) (h3 : ∀ w', Own w w' [] → BytesAt w' (.slice (some ⟨b, off, none⟩) n c) bs) :
 Calls Tryz.prog 93 #[.int .i64 i, .pointer (some ⟨p1, 0, none⟩), .pointer (some ⟨p2, 0, none⟩)] w fun e w' => e = .returned (.int .i64 (dg bs i 4)) ∧ Own w w' [] := by
 have H := Own.refl w
 have h1' := Hh h1
 have h2' := Hh h2
 obtain ⟨z, hz⟩ : ∃ z, z = bs[i * 4 / 8]?.getD 0 := ⟨_, rfl⟩
 have hz01 : 0 ≤ z ∧ z < 256 := by rw [hz]; exact hr _ (by omega)
 have hc : Hid (∀ w', Own w w' [] → w'.cell? ⟨b, off + i * 4 / 8, none⟩ = some (.int .u8 z)) := fun w' h => by have e := byte_of (i := i * 4 / 8) (h3 w' h) (by omega); have q : i * 4 / 8 = i * 4 / 8 := (by omega); rw [← hz, q] at e; exact e
 have hd : Hid (dg bs i 4 = z / 2 ^ (8 - 4 - i * 4 % 8) % 2 ^ 4) := by show _ = _; rw [hz]; rfl
 obtain ⟨d, hdd⟩ : ∃ d, d = dg bs i 4 := ⟨_, rfl⟩
 rw [← hdd] at hd ⊢
 have hw : ∀ m, Own w (w.drewN m) [] := fun m => H.drewN m
 clear h1 h2 h3 hr hn hz hdd
 go_enter Tryz.func93, Tryz.ntmps93
 go_wp2_with fail
 refine region_drew 22 (by kernel_rfl) (by kernel_rfl) (by kernel_rfl) ?_
 simp only [List.take_succ_cons, List.take_zero, List.drop_succ_cons, List.drop_zero]
 repeat (first
  | (refine qd_val rfl (fun m => rn_cell rfl rfl rfl rfl (h1'.out _ (hw m))) ?_; go_frame)
  | (refine qd_val rfl (fun m => rn_cell rfl rfl rfl rfl (h2'.out _ (hw m))) ?_; go_frame)
  | (refine qd_val rfl (fun m => rn_cell rfl rfl rfl rfl (hc.out _ (hw m))) ?_; go_frame)
  | go_big_quiet_step (fail))
 refine wpQuiet_nil ?_
 rintro w' hw'
 have H' := Hh (show Own w w' [] by obtain ⟨m, rfl⟩ := hw'; exact hw m)
 clear hw' H
 go_wp2_with fail
 go_ret
 refine ⟨congrArg (fun q => Ending.returned (.int .i64 q)) ?_, H'.out⟩
 obtain ⟨g1, g2⟩ := div_pow (4 - i * 4 % 8) hz01.1 hz01.2
 rw [hd.out]
 exact and_i64 4 15 rfl g1 g2 (by omega)
set_option maxRecDepth 100000 in
theorem digit_8 (w : World) (i p1 p2 b off n c : Nat) (bs : List Int) (hi : i ≤ 300) (hj : i * 8 / 8 < n) (hn : n = bs.length) (hr : IsBytes bs)
 (h1 : ∀ w', Own w w' [] → w'.cell? ⟨p1, 0, none⟩ = some (.slice (some ⟨b, off, none⟩) n c)) (h2 : ∀ w', Own w w' [] → w'.cell? ⟨p2, 0, none⟩ = some (.int .i64 8)) (h3 : ∀ w', Own w w' [] → BytesAt w' (.slice (some ⟨b, off, none⟩) n c) bs) :
 Calls Tryz.prog 93 #[.int .i64 i, .pointer (some ⟨p1, 0, none⟩), .pointer (some ⟨p2, 0, none⟩)] w fun e w' => e = .returned (.int .i64 (dg bs i 8)) ∧ Own w w' [] := by
 have H := Own.refl w
 have h1' := Hh h1
 have h2' := Hh h2
 obtain ⟨z, hz⟩ : ∃ z, z = bs[i * 8 / 8]?.getD 0 := ⟨_, rfl⟩
 have hz01 : 0 ≤ z ∧ z < 256 := by rw [hz]; exact hr _ (by omega)
 have hc : Hid (∀ w', Own w w' [] → w'.cell? ⟨b, off + i, none⟩ = some (.int .u8 z)) := fun w' h => by have e := byte_of (i := i * 8 / 8) (h3 w' h) (by omega); have q : i * 8 / 8 = i := (by omega); rw [← hz, q] at e; exact e
 have hd : Hid (dg bs i 8 = z / 2 ^ (8 - 8 - i * 8 % 8) % 2 ^ 8) := by show _ = _; rw [hz]; rfl
 obtain ⟨d, hdd⟩ : ∃ d, d = dg bs i 8 := ⟨_, rfl⟩
 rw [← hdd] at hd ⊢
 have hw : ∀ m, Own w (w.drewN m) [] := fun m => H.drewN m
 clear h1 h2 h3 hr hn hz hdd
 go_enter Tryz.func93, Tryz.ntmps93
 go_wp2_with fail
 refine region_drew 22 (by kernel_rfl) (by kernel_rfl) (by kernel_rfl) ?_
 simp only [List.take_succ_cons, List.take_zero, List.drop_succ_cons, List.drop_zero]
 repeat (first
  | (refine qd_val rfl (fun m => rn_cell rfl rfl rfl rfl (h1'.out _ (hw m))) ?_; go_frame)
  | (refine qd_val rfl (fun m => rn_cell rfl rfl rfl rfl (h2'.out _ (hw m))) ?_; go_frame)
  | (refine qd_val rfl (fun m => rn_cell rfl rfl rfl rfl (hc.out _ (hw m))) ?_; go_frame)
  | go_big_quiet_step (fail))
 refine wpQuiet_nil ?_
 rintro w' hw'
 have H' := Hh (show Own w w' [] by obtain ⟨m, rfl⟩ := hw'; exact hw m)
 clear hw' H
 go_wp2_with fail
 go_ret
 refine ⟨congrArg (fun q => Ending.returned (.int .i64 q)) ?_, H'.out⟩
 obtain ⟨g1, g2⟩ := div_pow (0) hz01.1 hz01.2
 rw [hd.out]
 rw [Nat.mul_mod_left]
 simp only [Nat.sub_self, Int.pow_zero, Int.ediv_one] at g1 g2 ⊢
 exact and_i64 8 255 rfl g1 g2 (by omega)
set_option maxRecDepth 100000 in
theorem coef_1 (w : World) (i b off n c : Nat) (bs : List Int) (hi : i ≤ 300) (hj : i * 1 / 8 < n) (hn : n = bs.length) (hr : IsBytes bs) (h3 : BytesAt w (.slice (some ⟨b, off, none⟩) n c) bs) :
 Calls Tryz.prog 95 #[.slice (some ⟨b, off, none⟩) n c, .int .i64 i, .int .i64 1] w fun e w' => e = .returned (.int .i64 (dg bs i 1)) ∧ Own w w' [] := by
 have H := Own.refl w
 obtain ⟨z, hz⟩ : ∃ z, z = bs[i * 1 / 8]?.getD 0 := ⟨_, rfl⟩
 have hz01 : 0 ≤ z ∧ z < 256 := by rw [hz]; exact hr _ (by omega)
 have hc : Hid (w.cell? ⟨b, off + i / 8, none⟩ = some (.int .u8 z)) := by show _ = _; have e := byte_of (i := i * 1 / 8) h3 (by omega); have q : i * 1 / 8 = i / 8 := (by omega); rw [← hz, q] at e; exact e
 have hd : Hid (dg bs i 1 = z / 2 ^ (8 - 1 - i * 1 % 8) % 2 ^ 1) := by show _ = _; rw [hz]; rfl
 obtain ⟨d, hdd⟩ : ∃ d, d = dg bs i 1 := ⟨_, rfl⟩
 rw [← hdd] at hd ⊢
 clear h3 hr hn hz hdd
 go_enter Tryz.func95, Tryz.ntmps95
 go_wp2_with (refine st_val rfl (rn_cell rfl rfl rfl rfl hc.out) ?_)
 have H' := Hh H
 clear H
 go_ret
 refine ⟨congrArg (fun q => Ending.returned (.int .i64 q)) ?_, H'.out⟩
 obtain ⟨g1, g2⟩ := div_pow (7 - i % 8) hz01.1 hz01.2
 rw [hd.out]
 rw [wrap64_id g1 g2]
 rw [Nat.mul_one]
 exact and_i64 1 1 rfl g1 g2 (by omega)
set_option maxRecDepth 100000 in
theorem coef_2 (w : World) (i b off n c : Nat) (bs : List Int) (hi : i ≤ 300) (hj : i * 2 / 8 < n) (hn : n = bs.length) (hr : IsBytes bs) (h3 : BytesAt w (.slice (some ⟨b, off, none⟩) n c) bs) :
 Calls Tryz.prog 95 #[.slice (some ⟨b, off, none⟩) n c, .int .i64 i, .int .i64 2] w fun e w' => e = .returned (.int .i64 (dg bs i 2)) ∧ Own w w' [] := by
 have H := Own.refl w
 obtain ⟨z, hz⟩ : ∃ z, z = bs[i * 2 / 8]?.getD 0 := ⟨_, rfl⟩
 have hz01 : 0 ≤ z ∧ z < 256 := by rw [hz]; exact hr _ (by omega)
 have hc : Hid (w.cell? ⟨b, off + i * 2 / 8, none⟩ = some (.int .u8 z)) := by show _ = _; have e := byte_of (i := i * 2 / 8) h3 (by omega); have q : i * 2 / 8 = i * 2 / 8 := (by omega); rw [← hz, q] at e; exact e
 have hd : Hid (dg bs i 2 = z / 2 ^ (8 - 2 - i * 2 % 8) % 2 ^ 2) := by show _ = _; rw [hz]; rfl
 obtain ⟨d, hdd⟩ : ∃ d, d = dg bs i 2 := ⟨_, rfl⟩
 rw [← hdd] at hd ⊢
 clear h3 hr hn hz hdd
 go_enter Tryz.func95, Tryz.ntmps95
 go_wp2_with (refine st_val rfl (rn_cell rfl rfl rfl rfl hc.out) ?_)
 have H' := Hh H
 clear H
 go_ret
 refine ⟨congrArg (fun q => Ending.returned (.int .i64 q)) ?_, H'.out⟩
 obtain ⟨g1, g2⟩ := div_pow (6 - i * 2 % 8) hz01.1 hz01.2
 rw [hd.out]
 rw [wrap64_id g1 g2]
 exact and_i64 2 3 rfl g1 g2 (by omega)
set_option maxRecDepth 100000 in
theorem coef_4 (w : World) (i b off n c : Nat) (bs : List Int) (hi : i ≤ 300) (hj : i * 4 / 8 < n) (hn : n = bs.length) (hr : IsBytes bs) (h3 : BytesAt w (.slice (some ⟨b, off, none⟩) n c) bs) :
 Calls Tryz.prog 95 #[.slice (some ⟨b, off, none⟩) n c, .int .i64 i, .int .i64 4] w fun e w' => e = .returned (.int .i64 (dg bs i 4)) ∧ Own w w' [] := by
 have H := Own.refl w
 obtain ⟨z, hz⟩ : ∃ z, z = bs[i * 4 / 8]?.getD 0 := ⟨_, rfl⟩
 have hz01 : 0 ≤ z ∧ z < 256 := by rw [hz]; exact hr _ (by omega)
 have hc : Hid (w.cell? ⟨b, off + i * 4 / 8, none⟩ = some (.int .u8 z)) := by show _ = _; have e := byte_of (i := i * 4 / 8) h3 (by omega); have q : i * 4 / 8 = i * 4 / 8 := (by omega); rw [← hz, q] at e; exact e
 have hd : Hid (dg bs i 4 = z / 2 ^ (8 - 4 - i * 4 % 8) % 2 ^ 4) := by show _ = _; rw [hz]; rfl
 obtain ⟨d, hdd⟩ : ∃ d, d = dg bs i 4 := ⟨_, rfl⟩
 rw [← hdd] at hd ⊢
 clear h3 hr hn hz hdd
 go_enter Tryz.func95, Tryz.ntmps95
 go_wp2_with (refine st_val rfl (rn_cell rfl rfl rfl rfl hc.out) ?_)
 have H' := Hh H
 clear H
 go_ret
 refine ⟨congrArg (fun q => Ending.returned (.int .i64 q)) ?_, H'.out⟩
 obtain ⟨g1, g2⟩ := div_pow (4 - i * 4 % 8) hz01.1 hz01.2
 rw [hd.out]
 rw [wrap64_id g1 g2]
 exact and_i64 4 15 rfl g1 g2 (by omega)
set_option maxRecDepth 100000 in
theorem coef_8 (w : World) (i b off n c : Nat) (bs : List Int) (hi : i ≤ 300) (hj : i * 8 / 8 < n) (hn : n = bs.length) (hr : IsBytes bs) (h3 : BytesAt w (.slice (some ⟨b, off, none⟩) n c) bs) :
 Calls Tryz.prog 95 #[.slice (some ⟨b, off, none⟩) n c, .int .i64 i, .int .i64 8] w fun e w' => e = .returned (.int .i64 (dg bs i 8)) ∧ Own w w' [] := by
 have H := Own.refl w
 obtain ⟨z, hz⟩ : ∃ z, z = bs[i * 8 / 8]?.getD 0 := ⟨_, rfl⟩
 have hz01 : 0 ≤ z ∧ z < 256 := by rw [hz]; exact hr _ (by omega)
 have hc : Hid (w.cell? ⟨b, off + i, none⟩ = some (.int .u8 z)) := by show _ = _; have e := byte_of (i := i * 8 / 8) h3 (by omega); have q : i * 8 / 8 = i := (by omega); rw [← hz, q] at e; exact e
 have hd : Hid (dg bs i 8 = z / 2 ^ (8 - 8 - i * 8 % 8) % 2 ^ 8) := by show _ = _; rw [hz]; rfl
 obtain ⟨d, hdd⟩ : ∃ d, d = dg bs i 8 := ⟨_, rfl⟩
 rw [← hdd] at hd ⊢
 clear h3 hr hn hz hdd
 go_enter Tryz.func95, Tryz.ntmps95
 go_wp2_with (refine st_val rfl (rn_cell rfl rfl rfl rfl hc.out) ?_)
 have H' := Hh H
 clear H
 go_ret
 refine ⟨congrArg (fun q => Ending.returned (.int .i64 q)) ?_, H'.out⟩
 obtain ⟨g1, g2⟩ := div_pow (0) hz01.1 hz01.2
 rw [hd.out]
 rw [Nat.mul_mod_left]
 simp only [Nat.sub_self, Int.pow_zero, Int.ediv_one] at g1 g2 ⊢
 exact and_i64 8 255 rfl g1 g2 (by omega)
end Go.Proofs.YtfihlmnbonnekaaGreat
namespace Go.Proofs.YtfihlmnbonnekaaGreat
open Go.RowKit
theorem elem_i64 : Elem Tryz.prog 3 1 8 := Elem.of (by kernel_rfl) (by decide)
def lackTo (hs : List Int) (k : Nat) : Nat → Int
 | 0 => 0
 | i + 1 => lackTo hs k i + 2 ^ k - 1 - dg hs i k
theorem lackTo_range (hs : List Int) (k : Nat) : ∀ i, 0 ≤ lackTo hs k i ∧ lackTo hs k i ≤ i * (2 ^ k - 1)
 | 0 => by simp [lackTo]
 | i + 1 => by
   have h1 := lackTo_range hs k i
   have h2 := dg_range (bs := hs) (i := i) (w := k)
   have h3 : ((i + 1 : Nat) : Int) * (2 ^ k - 1) = i * (2 ^ k - 1) + (2 ^ k - 1) := by push_cast; rw [Int.add_mul, Int.one_mul]
   rw [h3]
   simp only [lackTo]
   omega
theorem BytesAt.addr {w : World} {p : Option Addr} {n c : Nat} {bs : List Int} (h : BytesAt w (.slice p n c) bs) (h0 : 0 < bs.length) : ∃ b off, p = some ⟨b, off, none⟩ := by
 rcases h with ⟨_, h1, _⟩ | ⟨b, off, c2, h1, _, _⟩
 · omega
 · cases h1; exact ⟨_, _, rfl⟩
def chN (k : Nat) : Nat := if k = 1 then 265 else if k = 2 then 133 else if k = 4 then 67 else 34
def shN (k : Nat) : Nat := if k = 1 then 7 else if k = 2 then 6 else if k = 4 then 4 else 0
def csumOf (hs : List Int) (k : Nat) : Int := lackTo hs k (256 / k) * 2 ^ shN k
def withSum (hs : List Int) (k : Nat) : List Int := hs ++ [csumOf hs k / 256 % 256, csumOf hs k % 256]
def digits (hs : List Int) (k : Nat) : List Int := (List.range (chN k)).map fun i => dg (withSum hs k) i k
theorem length_digits (hs : List Int) (k : Nat) : (digits hs k).length = chN k := by simp [digits]
theorem length_withSum {hs : List Int} (h : hs.length = 32) (k : Nat) : (withSum hs k).length = 34 := by simp [withSum, h]
theorem isBytes_withSum {hs : List Int} (h : IsBytes hs) (k : Nat) : IsBytes (withSum hs k) := by
 intro i hi
 unfold withSum at hi ⊢
 rcases Nat.lt_or_ge i hs.length with h1 | h1
 · rw [List.getElem?_append_left h1]; exact h i h1
 · rw [List.getElem?_append_right h1]
   have h2 : i - hs.length = 0 ∨ i - hs.length = 1 := by simp at hi; omega
   rcases h2 with h2 | h2 <;> rw [h2] <;> simp <;> omega
theorem digits_take {hs : List Int} {k i : Nat} (h : i < chN k) : (digits hs k).take i ++ [dg (withSum hs k) i k] = (digits hs k).take (i + 1) := by
 have hl : i < (digits hs k).length := by rw [length_digits]; exact h
 rw [List.take_succ_eq_append_getElem hl]
 simp [digits]
theorem digits_range {hs : List Int} {k : Nat} : ∀ x ∈ digits hs k, 0 ≤ x ∧ x < 2 ^ k := by
 intro x hx
 simp only [digits, List.mem_map] at hx
 obtain ⟨i, _, rfl⟩ := hx
 exact dg_range
def IIn (k : IntKind) (xs : List Int) : World → Value → Prop := fun w v => (∃ p c, v = .slice p xs.length c) ∧ SlAt w v xs.length (ints k xs) ∧ ∀ j, blk v = some j → j < w.heap.size
theorem IIn.mono (k : IntKind) (xs : List Int) : Mono (IIn k xs) := fun _ _ _ h ⟨h1, h2, h3⟩ => ⟨h1, SlAt.own0 h2 h, fun j hj => Nat.lt_of_lt_of_le (h3 j hj) h.size⟩
theorem Buf.iin {e : TypeId} {k : IntKind} {w0 w : World} {L : List Ent} {v : Value} {xs : List Int} (h : Buf e k w0 w L v xs) : IIn k xs w v := ⟨h.slice, h.slAt, h.lt⟩
set_option maxRecDepth 100000 in
theorem refShift_1 (w : World) : Calls Tryz.prog 96 #[.int .i64 1] w fun e w' => e = .returned (.int .u64 7) ∧ Own w w' [] := by
 have H' := Hh (Own.refl w)
 go_enter Tryz.func96, Tryz.ntmps96
 go_wp2_with fail
 go_ret
 exact ⟨rfl, H'.out⟩
set_option maxRecDepth 100000 in
theorem refShift_2 (w : World) : Calls Tryz.prog 96 #[.int .i64 2] w fun e w' => e = .returned (.int .u64 6) ∧ Own w w' [] := by
 have H' := Hh (Own.refl w)
 go_enter Tryz.func96, Tryz.ntmps96
 go_wp2_with fail
 go_ret
 exact ⟨rfl, H'.out⟩
set_option maxRecDepth 100000 in
theorem refShift_4 (w : World) : Calls Tryz.prog 96 #[.int .i64 4] w fun e w' => e = .returned (.int .u64 4) ∧ Own w w' [] := by
 have H' := Hh (Own.refl w)
 go_enter Tryz.func96, Tryz.ntmps96
 go_wp2_with fail
 go_ret
 exact ⟨rfl, H'.out⟩
set_option maxRecDepth 100000 in
theorem refShift_8 (w : World) : Calls Tryz.prog 96 #[.int .i64 8] w fun e w' => e = .returned (.int .u64 0) ∧ Own w w' [] := by
 have H' := Hh (Own.refl w)
 go_enter Tryz.func96, Tryz.ntmps96
 go_wp2_with fail
 go_ret
 exact ⟨rfl, H'.out⟩
set_option maxRecDepth 100000 in
theorem refDigits_1 (w : World) (hs : List Int) (h32 : hs.length = 32) (hb : IsBytes hs) :
 Calls Tryz.prog 77 #[.int .i64 1, .agg (u8s hs).toArray] w fun e w' => ∃ v, e = .returned v ∧ IIn .i64 (digits hs 1) w' v ∧ Own w w' [] := by
 have H := Own.refl w
 have h32' := Hh h32
 have hb' := Hh hb
 clear h32 hb
 go_enter Tryz.func77, Tryz.ntmps77
 have z1 := tt
 go_wp2_with (first
  | (clear z1; refine st_new rfl (rn_box (cs := u8s hs) H rfl rfl rfl) ?_; clear H; intro b3 w1 hb3 H; have z2 := tt)
  | (clear z2; refine st_new rfl (rn_buildSlice (e := 5) (cs := u8s []) H rfl (fun w' => by kernel_rfl)) ?_; clear H; intro b w4 hb4 H; have B : Buf 5 .u8 w w4 [(b3, u8s hs, 24)] (.slice (some ⟨b, 0, none⟩) 0 0) [] := Buf.lit (xs := []) H hb4 (by decide); clear H hb4)
  | (refine st_val rfl (rn_sliceAll rfl rfl size_u8 rfl (by omega)) ?_)
  | (refine st_app (ys := hs) rfl B elem_u8 rfl rfl rfl rfl (Own.lit B.own0 h32'.out.symm) (by rw [h32'.out]; simp) (by rw [h32'.out]; simp) ?_; clear B; intro p6 c6 w6 B; have e32 : ([] : List Int).length + hs.length = 32 := (by rw [h32'.out]; rfl); rw [e32] at B ⊢; clear e32; rw [List.nil_append] at B))
 obtain ⟨g, og, hg⟩ := B.bytesAt.addr (by rw [h32'.out]; omega)
 subst hg
 have hby : Hid (∀ w', Own w6 w' [] → BytesAt w' (.slice (some ⟨g, og, none⟩) 32 c6) hs) := fun w' h => SlAt.own0 B.bytesAt h
 have B6 := Hh B
 clear B
 have H := Own.refl w6
 go_loopw [6, 7] (fun v6 v7 wr => ∃ (i : Nat) (x : Int), i ≤ 256 ∧ v7 = .int .i64 ((i : Nat) : Int) ∧ v6 = .int .i64 x ∧ x = lackTo hs 1 i ∧ Own w6 wr []) (fun _ v7 _ => ((256 : Nat) - intOf v7).toNat)
 case atStart => exact ⟨0, 0, by omega, rfl, rfl, rfl, H⟩
 case round =>
  clear H
  obtain ⟨i, x, hi, rfl, rfl, hx, H⟩ := hrel
  have hr := lackTo_range hs 1 i
  rw [← hx] at hr
  have hx' := Hh hx
  clear hx
  obtain ⟨hr0, hr1⟩ := hr
  have hr2 : x ≤ (i : Int) * 1 := hr1
  clear hr1
  by_cases hin : i < 256
  · have hc : Hid (Calls Tryz.prog 95 #[.slice (some ⟨g, og, none⟩) 32 c6, .int .i64 i, .int .i64 1] wr fun e w' => e = .returned (.int .i64 (dg hs i 1)) ∧ Own wr w' []) := coef_1 wr i g og 32 c6 hs (by omega) (by omega) h32'.out.symm hb'.out (hby.out _ H)
    have hd := dg_range (bs := hs) (i := i) (w := 1)
    have hst : Hid (lackTo hs 1 (i + 1) = lackTo hs 1 i + 2 ^ 1 - 1 - dg hs i 1) := rfl
    obtain ⟨d, hdd⟩ : ∃ d, d = dg hs i 1 := ⟨_, rfl⟩
    rw [← hdd] at hc hd hst
    clear hdd
    obtain ⟨hd0, hd1⟩ := hd
    have hd2 : d < 2 := hd1
    clear hd1
    go_wp2_with (go_at_call 95; refine hc.out.mono ?_; rintro e w8 ⟨rfl, h3⟩; replace H := H.call0 h3; clear h3)
    exact ⟨⟨i + 1, _, by omega, by go_num, rfl, by rw [hst.out, ← hx'.out]; omega, H⟩, by simp [intOf]; omega⟩
  · obtain rfl : i = 256 := by omega
    have hsh := Hh (fun w' => refShift_1 w')
    have hch : Hid (∀ w', Calls Tryz.prog 54 #[.int .i64 1] w' fun e w'' => e = .returned (.int .i64 265) ∧ Own w' w'' []) := fun w' => refChains_any w' 1
    have hcs : Hid (withSum hs 1 = hs ++ [x * 128 / 256, x * 128 % 256]) := by show _ = _; unfold withSum csumOf; rw [show lackTo hs 1 (256 / 1) = lackTo hs 1 256 from rfl, ← hx'.out, show x * 2 ^ shN 1 = x * 128 from rfl, show x * 128 / 256 % 256 = x * 128 / 256 by omega]
    have hbw := Hh (isBytes_withSum hb'.out 1)
    have hlw := Hh (length_withSum h32'.out 1)
    have hdl := Hh (length_digits hs 1)
    have hdt : Hid (∀ i, i < 265 → (digits hs 1).take i ++ [dg (withSum hs 1) i 1] = (digits hs 1).take (i + 1)) := fun i h => digits_take h
    obtain ⟨ds, hds⟩ : ∃ d, d = digits hs 1 := ⟨_, rfl⟩
    obtain ⟨ws, hws⟩ : ∃ d, d = withSum hs 1 := ⟨_, rfl⟩
    rw [← hws] at hcs hbw hlw hdt
    rw [← hds] at hdl hdt
    have hds' := Hh hds
    clear hds hws
    have B := B6.out.call0 H
    clear H B6
    go_wp2_with (first
     | (go_at_call 96; refine (hsh.out _).mono ?_; rintro e w8 ⟨rfl, h3⟩; replace B := B.call0 h3; clear h3)
     | (refine st_lit rfl B rfl (cs := u8s [x * 128 / 256, x * 128 % 256]) (el := 5) (fun w' => by kernel_rfl) ?_; clear B; intro b9 w9 hb9 B)
     | (refine st_app (ys := [x * 128 / 256, x * 128 % 256]) rfl B elem_u8 rfl rfl rfl rfl (B.litAt (.head _) rfl) (by rw [h32'.out]; simp) (by rw [h32'.out]; simp) ?_; clear B; intro p7 c7 w7 B; have e34 : hs.length + [x * 128 / 256, x * 128 % 256].length = 34 := (by rw [h32'.out]; rfl); rw [← hcs.out] at B; rw [e34] at B ⊢; clear e34; have B2 := B.pop hb9; clear B; have B := B2; clear B2))
    obtain ⟨g2, og2, hg2⟩ := B.bytesAt.addr (by rw [hlw.out]; omega)
    subst hg2
    have hby2 : Hid (∀ w' L, Own w7 w' L → (∀ k ∈ L.map (·.1), w7.heap.size ≤ k) → BytesAt w' (.slice (some ⟨g2, og2, none⟩) 34 c7) ws) := fun w' L h hn => SlAt.own B.bytesAt h (fun k hk hm => by have := B.lt k hk; have := hn k hm; omega)
    have B7 := Hh B.own0
    clear B hby hb9 hsh
    have O := Buf.nil (e := 3) (k := .i64) (Own.refl w7)
    go_loopw [8, 9] (fun v8 v9 wr => ∃ (i : Nat) (p : Option Addr) (c : Nat), i ≤ 265 ∧ v9 = .int .i64 ((i : Nat) : Int) ∧ v8 = .slice p i c ∧ Buf 3 .i64 w7 wr [] v8 (ds.take i)) (fun _ v9 _ => ((265 : Nat) - intOf v9).toNat)
    case atStart => exact ⟨0, none, 0, by omega, rfl, rfl, by simpa using O⟩
    case round =>
     clear O
     obtain ⟨i, p8, c8, hi, rfl, rfl, O⟩ := hrel
     by_cases hin2 : i < 265
     · have hc : Hid (∀ w' L, Own w7 w' L → (∀ k ∈ L.map (·.1), w7.heap.size ≤ k) → Calls Tryz.prog 95 #[.slice (some ⟨g2, og2, none⟩) 34 c7, .int .i64 i, .int .i64 1] w' fun e w'' => e = .returned (.int .i64 (dg ws i 1)) ∧ Own w' w'' []) := fun w' L h hn => coef_1 w' i g2 og2 34 c7 ws (by omega) (by omega) hlw.out.symm hbw.out (hby2.out w' L h hn)
       have hst := Hh (hdt.out i hin2)
       have hl8 : Hid ((ds.take i).length = i) := by show _ = _; rw [List.length_take, hdl.out]; exact Nat.min_eq_left (Nat.le_of_lt hin2)
       obtain ⟨d, hdd⟩ : ∃ d, d = dg ws i 1 := ⟨_, rfl⟩
       rw [← hdd] at hc hst
       clear hdd
       have hsum : Hid ((ds.take i).length + [d].length = i + 1) := by show _ = _; rw [hl8.out]; rfl
       go_wp2_with (first
        | (go_at_call 54; refine (hch.out _).mono ?_; rintro e w8 ⟨rfl, h3⟩; have O2 := O.call0 h3; clear O h3; have O := O2; clear O2)
        | (go_at_call 95; refine (hc.out _ _ O.own0 (by simp)).mono ?_; rintro e w9 ⟨rfl, h3⟩; have O2 := O.call0 h3; clear O h3; have O := O2; clear O2)
        | (refine st_lit rfl O rfl (cs := i64s [d]) (el := 3) (fun w' => by kernel_rfl) ?_; clear O; intro b10 w10 hb10 O)
        | (refine st_app (ys := [d]) rfl O elem_i64 rfl rfl rfl rfl (O.litAt (.head _) rfl) (by rw [hsum.out]; omega) (by rw [hsum.out]; omega) ?_; clear O; intro p11 c11 w11 O; rw [hst.out] at O; rw [hsum.out] at O ⊢; have O2 := O.pop hb10; clear O; have O := O2; clear O2))
       exact ⟨⟨i + 1, _, _, by omega, by go_num, rfl, O⟩, by simp [intOf]; omega⟩
     · obtain rfl : i = 265 := by omega
       have hfin : Hid (ds.take 265 = ds) := List.take_of_length_le (by rw [hdl.out]; exact Nat.le_refl _)
       rw [hfin.out] at O
       go_wp2_with (go_at_call 54; refine (hch.out _).mono ?_; rintro e w8 ⟨rfl, h3⟩; have O2 := O.call0 h3; clear O h3; have O := O2; clear O2)
       have h1 := Hh O.iin
       have h2 := Hh (O.own0)
       go_ret
       exact ⟨_, rfl, by rw [← hds'.out]; exact h1.out, (B7.out.call0 h2.out).end0 (by simpa using hb3)⟩
set_option maxRecDepth 100000 in
theorem refDigits_2 (w : World) (hs : List Int) (h32 : hs.length = 32) (hb : IsBytes hs) :
 Calls Tryz.prog 77 #[.int .i64 2, .agg (u8s hs).toArray] w fun e w' => ∃ v, e = .returned v ∧ IIn .i64 (digits hs 2) w' v ∧ Own w w' [] := by
 have H := Own.refl w
 have h32' := Hh h32
 have hb' := Hh hb
 clear h32 hb
 go_enter Tryz.func77, Tryz.ntmps77
 have z1 := tt
 go_wp2_with (first
  | (clear z1; refine st_new rfl (rn_box (cs := u8s hs) H rfl rfl rfl) ?_; clear H; intro b3 w1 hb3 H; have z2 := tt)
  | (clear z2; refine st_new rfl (rn_buildSlice (e := 5) (cs := u8s []) H rfl (fun w' => by kernel_rfl)) ?_; clear H; intro b w4 hb4 H; have B : Buf 5 .u8 w w4 [(b3, u8s hs, 24)] (.slice (some ⟨b, 0, none⟩) 0 0) [] := Buf.lit (xs := []) H hb4 (by decide); clear H hb4)
  | (refine st_val rfl (rn_sliceAll rfl rfl size_u8 rfl (by omega)) ?_)
  | (refine st_app (ys := hs) rfl B elem_u8 rfl rfl rfl rfl (Own.lit B.own0 h32'.out.symm) (by rw [h32'.out]; simp) (by rw [h32'.out]; simp) ?_; clear B; intro p6 c6 w6 B; have e32 : ([] : List Int).length + hs.length = 32 := (by rw [h32'.out]; rfl); rw [e32] at B ⊢; clear e32; rw [List.nil_append] at B))
 obtain ⟨g, og, hg⟩ := B.bytesAt.addr (by rw [h32'.out]; omega)
 subst hg
 have hby : Hid (∀ w', Own w6 w' [] → BytesAt w' (.slice (some ⟨g, og, none⟩) 32 c6) hs) := fun w' h => SlAt.own0 B.bytesAt h
 have B6 := Hh B
 clear B
 have H := Own.refl w6
 go_loopw [6, 7] (fun v6 v7 wr => ∃ (i : Nat) (x : Int), i ≤ 128 ∧ v7 = .int .i64 ((i : Nat) : Int) ∧ v6 = .int .i64 x ∧ x = lackTo hs 2 i ∧ Own w6 wr []) (fun _ v7 _ => ((128 : Nat) - intOf v7).toNat)
 case atStart => exact ⟨0, 0, by omega, rfl, rfl, rfl, H⟩
 case round =>
  clear H
  obtain ⟨i, x, hi, rfl, rfl, hx, H⟩ := hrel
  have hr := lackTo_range hs 2 i
  rw [← hx] at hr
  have hx' := Hh hx
  clear hx
  obtain ⟨hr0, hr1⟩ := hr
  have hr2 : x ≤ (i : Int) * 3 := hr1
  clear hr1
  by_cases hin : i < 128
  · have hc : Hid (Calls Tryz.prog 95 #[.slice (some ⟨g, og, none⟩) 32 c6, .int .i64 i, .int .i64 2] wr fun e w' => e = .returned (.int .i64 (dg hs i 2)) ∧ Own wr w' []) := coef_2 wr i g og 32 c6 hs (by omega) (by omega) h32'.out.symm hb'.out (hby.out _ H)
    have hd := dg_range (bs := hs) (i := i) (w := 2)
    have hst : Hid (lackTo hs 2 (i + 1) = lackTo hs 2 i + 2 ^ 2 - 1 - dg hs i 2) := rfl
    obtain ⟨d, hdd⟩ : ∃ d, d = dg hs i 2 := ⟨_, rfl⟩
    rw [← hdd] at hc hd hst
    clear hdd
    obtain ⟨hd0, hd1⟩ := hd
    have hd2 : d < 4 := hd1
    clear hd1
    go_wp2_with (go_at_call 95; refine hc.out.mono ?_; rintro e w8 ⟨rfl, h3⟩; replace H := H.call0 h3; clear h3)
    exact ⟨⟨i + 1, _, by omega, by go_num, rfl, by rw [hst.out, ← hx'.out]; omega, H⟩, by simp [intOf]; omega⟩
  · obtain rfl : i = 128 := by omega
    have hsh := Hh (fun w' => refShift_2 w')
    have hch : Hid (∀ w', Calls Tryz.prog 54 #[.int .i64 2] w' fun e w'' => e = .returned (.int .i64 133) ∧ Own w' w'' []) := fun w' => refChains_any w' 2
    have hcs : Hid (withSum hs 2 = hs ++ [x * 64 / 256, x * 64 % 256]) := by show _ = _; unfold withSum csumOf; rw [show lackTo hs 2 (256 / 2) = lackTo hs 2 128 from rfl, ← hx'.out, show x * 2 ^ shN 2 = x * 64 from rfl, show x * 64 / 256 % 256 = x * 64 / 256 by omega]
    have hbw := Hh (isBytes_withSum hb'.out 2)
    have hlw := Hh (length_withSum h32'.out 2)
    have hdl := Hh (length_digits hs 2)
    have hdt : Hid (∀ i, i < 133 → (digits hs 2).take i ++ [dg (withSum hs 2) i 2] = (digits hs 2).take (i + 1)) := fun i h => digits_take h
    obtain ⟨ds, hds⟩ : ∃ d, d = digits hs 2 := ⟨_, rfl⟩
    obtain ⟨ws, hws⟩ : ∃ d, d = withSum hs 2 := ⟨_, rfl⟩
    rw [← hws] at hcs hbw hlw hdt
    rw [← hds] at hdl hdt
    have hds' := Hh hds
    clear hds hws
    have B := B6.out.call0 H
    clear H B6
    go_wp2_with (first
     | (go_at_call 96; refine (hsh.out _).mono ?_; rintro e w8 ⟨rfl, h3⟩; replace B := B.call0 h3; clear h3)
     | (refine st_lit rfl B rfl (cs := u8s [x * 64 / 256, x * 64 % 256]) (el := 5) (fun w' => by kernel_rfl) ?_; clear B; intro b9 w9 hb9 B)
     | (refine st_app (ys := [x * 64 / 256, x * 64 % 256]) rfl B elem_u8 rfl rfl rfl rfl (B.litAt (.head _) rfl) (by rw [h32'.out]; simp) (by rw [h32'.out]; simp) ?_; clear B; intro p7 c7 w7 B; have e34 : hs.length + [x * 64 / 256, x * 64 % 256].length = 34 := (by rw [h32'.out]; rfl); rw [← hcs.out] at B; rw [e34] at B ⊢; clear e34; have B2 := B.pop hb9; clear B; have B := B2; clear B2))
    obtain ⟨g2, og2, hg2⟩ := B.bytesAt.addr (by rw [hlw.out]; omega)
    subst hg2
    have hby2 : Hid (∀ w' L, Own w7 w' L → (∀ k ∈ L.map (·.1), w7.heap.size ≤ k) → BytesAt w' (.slice (some ⟨g2, og2, none⟩) 34 c7) ws) := fun w' L h hn => SlAt.own B.bytesAt h (fun k hk hm => by have := B.lt k hk; have := hn k hm; omega)
    have B7 := Hh B.own0
    clear B hby hb9 hsh
    have O := Buf.nil (e := 3) (k := .i64) (Own.refl w7)
    go_loopw [8, 9] (fun v8 v9 wr => ∃ (i : Nat) (p : Option Addr) (c : Nat), i ≤ 133 ∧ v9 = .int .i64 ((i : Nat) : Int) ∧ v8 = .slice p i c ∧ Buf 3 .i64 w7 wr [] v8 (ds.take i)) (fun _ v9 _ => ((133 : Nat) - intOf v9).toNat)
    case atStart => exact ⟨0, none, 0, by omega, rfl, rfl, by simpa using O⟩
    case round =>
     clear O
     obtain ⟨i, p8, c8, hi, rfl, rfl, O⟩ := hrel
     by_cases hin2 : i < 133
     · have hc : Hid (∀ w' L, Own w7 w' L → (∀ k ∈ L.map (·.1), w7.heap.size ≤ k) → Calls Tryz.prog 95 #[.slice (some ⟨g2, og2, none⟩) 34 c7, .int .i64 i, .int .i64 2] w' fun e w'' => e = .returned (.int .i64 (dg ws i 2)) ∧ Own w' w'' []) := fun w' L h hn => coef_2 w' i g2 og2 34 c7 ws (by omega) (by omega) hlw.out.symm hbw.out (hby2.out w' L h hn)
       have hst := Hh (hdt.out i hin2)
       have hl8 : Hid ((ds.take i).length = i) := by show _ = _; rw [List.length_take, hdl.out]; exact Nat.min_eq_left (Nat.le_of_lt hin2)
       obtain ⟨d, hdd⟩ : ∃ d, d = dg ws i 2 := ⟨_, rfl⟩
       rw [← hdd] at hc hst
       clear hdd
       have hsum : Hid ((ds.take i).length + [d].length = i + 1) := by show _ = _; rw [hl8.out]; rfl
       go_wp2_with (first
        | (go_at_call 54; refine (hch.out _).mono ?_; rintro e w8 ⟨rfl, h3⟩; have O2 := O.call0 h3; clear O h3; have O := O2; clear O2)
        | (go_at_call 95; refine (hc.out _ _ O.own0 (by simp)).mono ?_; rintro e w9 ⟨rfl, h3⟩; have O2 := O.call0 h3; clear O h3; have O := O2; clear O2)
        | (refine st_lit rfl O rfl (cs := i64s [d]) (el := 3) (fun w' => by kernel_rfl) ?_; clear O; intro b10 w10 hb10 O)
        | (refine st_app (ys := [d]) rfl O elem_i64 rfl rfl rfl rfl (O.litAt (.head _) rfl) (by rw [hsum.out]; omega) (by rw [hsum.out]; omega) ?_; clear O; intro p11 c11 w11 O; rw [hst.out] at O; rw [hsum.out] at O ⊢; have O2 := O.pop hb10; clear O; have O := O2; clear O2))
       exact ⟨⟨i + 1, _, _, by omega, by go_num, rfl, O⟩, by simp [intOf]; omega⟩
     · obtain rfl : i = 133 := by omega
       have hfin : Hid (ds.take 133 = ds) := List.take_of_length_le (by rw [hdl.out]; exact Nat.le_refl _)
       rw [hfin.out] at O
       go_wp2_with (go_at_call 54; refine (hch.out _).mono ?_; rintro e w8 ⟨rfl, h3⟩; have O2 := O.call0 h3; clear O h3; have O := O2; clear O2)
       have h1 := Hh O.iin
       have h2 := Hh (O.own0)
       go_ret
       exact ⟨_, rfl, by rw [← hds'.out]; exact h1.out, (B7.out.call0 h2.out).end0 (by simpa using hb3)⟩
set_option maxRecDepth 100000 in
theorem refDigits_4 (w : World) (hs : List Int) (h32 : hs.length = 32) (hb : IsBytes hs) :
 Calls Tryz.prog 77 #[.int .i64 4, .agg (u8s hs).toArray] w fun e w' => ∃ v, e = .returned v ∧ IIn .i64 (digits hs 4) w' v ∧ Own w w' [] := by
 have H := Own.refl w
 have h32' := Hh h32
 have hb' := Hh hb
 clear h32 hb
 go_enter Tryz.func77, Tryz.ntmps77
 have z1 := tt
 go_wp2_with (first
  | (clear z1; refine st_new rfl (rn_box (cs := u8s hs) H rfl rfl rfl) ?_; clear H; intro b3 w1 hb3 H; have z2 := tt)
  | (clear z2; refine st_new rfl (rn_buildSlice (e := 5) (cs := u8s []) H rfl (fun w' => by kernel_rfl)) ?_; clear H; intro b w4 hb4 H; have B : Buf 5 .u8 w w4 [(b3, u8s hs, 24)] (.slice (some ⟨b, 0, none⟩) 0 0) [] := Buf.lit (xs := []) H hb4 (by decide); clear H hb4)
  | (refine st_val rfl (rn_sliceAll rfl rfl size_u8 rfl (by omega)) ?_)
  | (refine st_app (ys := hs) rfl B elem_u8 rfl rfl rfl rfl (Own.lit B.own0 h32'.out.symm) (by rw [h32'.out]; simp) (by rw [h32'.out]; simp) ?_; clear B; intro p6 c6 w6 B; have e32 : ([] : List Int).length + hs.length = 32 := (by rw [h32'.out]; rfl); rw [e32] at B ⊢; clear e32; rw [List.nil_append] at B))
 obtain ⟨g, og, hg⟩ := B.bytesAt.addr (by rw [h32'.out]; omega)
 subst hg
 have hby : Hid (∀ w', Own w6 w' [] → BytesAt w' (.slice (some ⟨g, og, none⟩) 32 c6) hs) := fun w' h => SlAt.own0 B.bytesAt h
 have B6 := Hh B
 clear B
 have H := Own.refl w6
 go_loopw [6, 7] (fun v6 v7 wr => ∃ (i : Nat) (x : Int), i ≤ 64 ∧ v7 = .int .i64 ((i : Nat) : Int) ∧ v6 = .int .i64 x ∧ x = lackTo hs 4 i ∧ Own w6 wr []) (fun _ v7 _ => ((64 : Nat) - intOf v7).toNat)
 case atStart => exact ⟨0, 0, by omega, rfl, rfl, rfl, H⟩
 case round =>
  clear H
  obtain ⟨i, x, hi, rfl, rfl, hx, H⟩ := hrel
  have hr := lackTo_range hs 4 i
  rw [← hx] at hr
  have hx' := Hh hx
  clear hx
  obtain ⟨hr0, hr1⟩ := hr
  have hr2 : x ≤ (i : Int) * 15 := hr1
  clear hr1
  by_cases hin : i < 64
  · have hc : Hid (Calls Tryz.prog 95 #[.slice (some ⟨g, og, none⟩) 32 c6, .int .i64 i, .int .i64 4] wr fun e w' => e = .returned (.int .i64 (dg hs i 4)) ∧ Own wr w' []) := coef_4 wr i g og 32 c6 hs (by omega) (by omega) h32'.out.symm hb'.out (hby.out _ H)
    have hd := dg_range (bs := hs) (i := i) (w := 4)
    have hst : Hid (lackTo hs 4 (i + 1) = lackTo hs 4 i + 2 ^ 4 - 1 - dg hs i 4) := rfl
    obtain ⟨d, hdd⟩ : ∃ d, d = dg hs i 4 := ⟨_, rfl⟩
    rw [← hdd] at hc hd hst
    clear hdd
    obtain ⟨hd0, hd1⟩ := hd
    have hd2 : d < 16 := hd1
    clear hd1
    go_wp2_with (go_at_call 95; refine hc.out.mono ?_; rintro e w8 ⟨rfl, h3⟩; replace H := H.call0 h3; clear h3)
    exact ⟨⟨i + 1, _, by omega, by go_num, rfl, by rw [hst.out, ← hx'.out]; omega, H⟩, by simp [intOf]; omega⟩
  · obtain rfl : i = 64 := by omega
    have hsh := Hh (fun w' => refShift_4 w')
    have hch : Hid (∀ w', Calls Tryz.prog 54 #[.int .i64 4] w' fun e w'' => e = .returned (.int .i64 67) ∧ Own w' w'' []) := fun w' => refChains_any w' 4
    have hcs : Hid (withSum hs 4 = hs ++ [x * 16 / 256, x * 16 % 256]) := by show _ = _; unfold withSum csumOf; rw [show lackTo hs 4 (256 / 4) = lackTo hs 4 64 from rfl, ← hx'.out, show x * 2 ^ shN 4 = x * 16 from rfl, show x * 16 / 256 % 256 = x * 16 / 256 by omega]
    have hbw := Hh (isBytes_withSum hb'.out 4)
    have hlw := Hh (length_withSum h32'.out 4)
    have hdl := Hh (length_digits hs 4)
    have hdt : Hid (∀ i, i < 67 → (digits hs 4).take i ++ [dg (withSum hs 4) i 4] = (digits hs 4).take (i + 1)) := fun i h => digits_take h
    obtain ⟨ds, hds⟩ : ∃ d, d = digits hs 4 := ⟨_, rfl⟩
    obtain ⟨ws, hws⟩ : ∃ d, d = withSum hs 4 := ⟨_, rfl⟩
    rw [← hws] at hcs hbw hlw hdt
    rw [← hds] at hdl hdt
    have hds' := Hh hds
    clear hds hws
    have B := B6.out.call0 H
    clear H B6
    go_wp2_with (first
     | (go_at_call 96; refine (hsh.out _).mono ?_; rintro e w8 ⟨rfl, h3⟩; replace B := B.call0 h3; clear h3)
     | (refine st_lit rfl B rfl (cs := u8s [x * 16 / 256, x * 16 % 256]) (el := 5) (fun w' => by kernel_rfl) ?_; clear B; intro b9 w9 hb9 B)
     | (refine st_app (ys := [x * 16 / 256, x * 16 % 256]) rfl B elem_u8 rfl rfl rfl rfl (B.litAt (.head _) rfl) (by rw [h32'.out]; simp) (by rw [h32'.out]; simp) ?_; clear B; intro p7 c7 w7 B; have e34 : hs.length + [x * 16 / 256, x * 16 % 256].length = 34 := (by rw [h32'.out]; rfl); rw [← hcs.out] at B; rw [e34] at B ⊢; clear e34; have B2 := B.pop hb9; clear B; have B := B2; clear B2))
    obtain ⟨g2, og2, hg2⟩ := B.bytesAt.addr (by rw [hlw.out]; omega)
    subst hg2
    have hby2 : Hid (∀ w' L, Own w7 w' L → (∀ k ∈ L.map (·.1), w7.heap.size ≤ k) → BytesAt w' (.slice (some ⟨g2, og2, none⟩) 34 c7) ws) := fun w' L h hn => SlAt.own B.bytesAt h (fun k hk hm => by have := B.lt k hk; have := hn k hm; omega)
    have B7 := Hh B.own0
    clear B hby hb9 hsh
    have O := Buf.nil (e := 3) (k := .i64) (Own.refl w7)
    go_loopw [8, 9] (fun v8 v9 wr => ∃ (i : Nat) (p : Option Addr) (c : Nat), i ≤ 67 ∧ v9 = .int .i64 ((i : Nat) : Int) ∧ v8 = .slice p i c ∧ Buf 3 .i64 w7 wr [] v8 (ds.take i)) (fun _ v9 _ => ((67 : Nat) - intOf v9).toNat)
    case atStart => exact ⟨0, none, 0, by omega, rfl, rfl, by simpa using O⟩
    case round =>
     clear O
     obtain ⟨i, p8, c8, hi, rfl, rfl, O⟩ := hrel
     by_cases hin2 : i < 67
     · have hc : Hid (∀ w' L, Own w7 w' L → (∀ k ∈ L.map (·.1), w7.heap.size ≤ k) → Calls Tryz.prog 95 #[.slice (some ⟨g2, og2, none⟩) 34 c7, .int .i64 i, .int .i64 4] w' fun e w'' => e = .returned (.int .i64 (dg ws i 4)) ∧ Own w' w'' []) := fun w' L h hn => coef_4 w' i g2 og2 34 c7 ws (by omega) (by omega) hlw.out.symm hbw.out (hby2.out w' L h hn)
       have hst := Hh (hdt.out i hin2)
       have hl8 : Hid ((ds.take i).length = i) := by show _ = _; rw [List.length_take, hdl.out]; exact Nat.min_eq_left (Nat.le_of_lt hin2)
       obtain ⟨d, hdd⟩ : ∃ d, d = dg ws i 4 := ⟨_, rfl⟩
       rw [← hdd] at hc hst
       clear hdd
       have hsum : Hid ((ds.take i).length + [d].length = i + 1) := by show _ = _; rw [hl8.out]; rfl
       go_wp2_with (first
        | (go_at_call 54; refine (hch.out _).mono ?_; rintro e w8 ⟨rfl, h3⟩; have O2 := O.call0 h3; clear O h3; have O := O2; clear O2)
        | (go_at_call 95; refine (hc.out _ _ O.own0 (by simp)).mono ?_; rintro e w9 ⟨rfl, h3⟩; have O2 := O.call0 h3; clear O h3; have O := O2; clear O2)
        | (refine st_lit rfl O rfl (cs := i64s [d]) (el := 3) (fun w' => by kernel_rfl) ?_; clear O; intro b10 w10 hb10 O)
        | (refine st_app (ys := [d]) rfl O elem_i64 rfl rfl rfl rfl (O.litAt (.head _) rfl) (by rw [hsum.out]; omega) (by rw [hsum.out]; omega) ?_; clear O; intro p11 c11 w11 O; rw [hst.out] at O; rw [hsum.out] at O ⊢; have O2 := O.pop hb10; clear O; have O := O2; clear O2))
       exact ⟨⟨i + 1, _, _, by omega, by go_num, rfl, O⟩, by simp [intOf]; omega⟩
     · obtain rfl : i = 67 := by omega
       have hfin : Hid (ds.take 67 = ds) := List.take_of_length_le (by rw [hdl.out]; exact Nat.le_refl _)
       rw [hfin.out] at O
       go_wp2_with (go_at_call 54; refine (hch.out _).mono ?_; rintro e w8 ⟨rfl, h3⟩; have O2 := O.call0 h3; clear O h3; have O := O2; clear O2)
       have h1 := Hh O.iin
       have h2 := Hh (O.own0)
       go_ret
       exact ⟨_, rfl, by rw [← hds'.out]; exact h1.out, (B7.out.call0 h2.out).end0 (by simpa using hb3)⟩
set_option maxRecDepth 100000 in
theorem refDigits_8 (w : World) (hs : List Int) (h32 : hs.length = 32) (hb : IsBytes hs) :
 Calls Tryz.prog 77 #[.int .i64 8, .agg (u8s hs).toArray] w fun e w' => ∃ v, e = .returned v ∧ IIn .i64 (digits hs 8) w' v ∧ Own w w' [] := by
 have H := Own.refl w
 have h32' := Hh h32
 have hb' := Hh hb
 clear h32 hb
 go_enter Tryz.func77, Tryz.ntmps77
 have z1 := tt
 go_wp2_with (first
  | (clear z1; refine st_new rfl (rn_box (cs := u8s hs) H rfl rfl rfl) ?_; clear H; intro b3 w1 hb3 H; have z2 := tt)
  | (clear z2; refine st_new rfl (rn_buildSlice (e := 5) (cs := u8s []) H rfl (fun w' => by kernel_rfl)) ?_; clear H; intro b w4 hb4 H; have B : Buf 5 .u8 w w4 [(b3, u8s hs, 24)] (.slice (some ⟨b, 0, none⟩) 0 0) [] := Buf.lit (xs := []) H hb4 (by decide); clear H hb4)
  | (refine st_val rfl (rn_sliceAll rfl rfl size_u8 rfl (by omega)) ?_)
  | (refine st_app (ys := hs) rfl B elem_u8 rfl rfl rfl rfl (Own.lit B.own0 h32'.out.symm) (by rw [h32'.out]; simp) (by rw [h32'.out]; simp) ?_; clear B; intro p6 c6 w6 B; have e32 : ([] : List Int).length + hs.length = 32 := (by rw [h32'.out]; rfl); rw [e32] at B ⊢; clear e32; rw [List.nil_append] at B))
 obtain ⟨g, og, hg⟩ := B.bytesAt.addr (by rw [h32'.out]; omega)
 subst hg
 have hby : Hid (∀ w', Own w6 w' [] → BytesAt w' (.slice (some ⟨g, og, none⟩) 32 c6) hs) := fun w' h => SlAt.own0 B.bytesAt h
 have B6 := Hh B
 clear B
 have H := Own.refl w6
 go_loopw [6, 7] (fun v6 v7 wr => ∃ (i : Nat) (x : Int), i ≤ 32 ∧ v7 = .int .i64 ((i : Nat) : Int) ∧ v6 = .int .i64 x ∧ x = lackTo hs 8 i ∧ Own w6 wr []) (fun _ v7 _ => ((32 : Nat) - intOf v7).toNat)
 case atStart => exact ⟨0, 0, by omega, rfl, rfl, rfl, H⟩
 case round =>
  clear H
  obtain ⟨i, x, hi, rfl, rfl, hx, H⟩ := hrel
  have hr := lackTo_range hs 8 i
  rw [← hx] at hr
  have hx' := Hh hx
  clear hx
  obtain ⟨hr0, hr1⟩ := hr
  have hr2 : x ≤ (i : Int) * 255 := hr1
  clear hr1
  by_cases hin : i < 32
  · have hc : Hid (Calls Tryz.prog 95 #[.slice (some ⟨g, og, none⟩) 32 c6, .int .i64 i, .int .i64 8] wr fun e w' => e = .returned (.int .i64 (dg hs i 8)) ∧ Own wr w' []) := coef_8 wr i g og 32 c6 hs (by omega) (by omega) h32'.out.symm hb'.out (hby.out _ H)
    have hd := dg_range (bs := hs) (i := i) (w := 8)
    have hst : Hid (lackTo hs 8 (i + 1) = lackTo hs 8 i + 2 ^ 8 - 1 - dg hs i 8) := rfl
    obtain ⟨d, hdd⟩ : ∃ d, d = dg hs i 8 := ⟨_, rfl⟩
    rw [← hdd] at hc hd hst
    clear hdd
    obtain ⟨hd0, hd1⟩ := hd
    have hd2 : d < 256 := hd1
    clear hd1
    go_wp2_with (go_at_call 95; refine hc.out.mono ?_; rintro e w8 ⟨rfl, h3⟩; replace H := H.call0 h3; clear h3)
    exact ⟨⟨i + 1, _, by omega, by go_num, rfl, by rw [hst.out, ← hx'.out]; omega, H⟩, by simp [intOf]; omega⟩
  · obtain rfl : i = 32 := by omega
    have hsh := Hh (fun w' => refShift_8 w')
    have hch : Hid (∀ w', Calls Tryz.prog 54 #[.int .i64 8] w' fun e w'' => e = .returned (.int .i64 34) ∧ Own w' w'' []) := fun w' => refChains_any w' 8
    have hcs : Hid (withSum hs 8 = hs ++ [x / 256, x % 256]) := by show _ = _; unfold withSum csumOf; rw [show lackTo hs 8 (256 / 8) = lackTo hs 8 32 from rfl, ← hx'.out, show x * 2 ^ shN 8 = x from Int.mul_one x, show x / 256 % 256 = x / 256 by omega]
    have hbw := Hh (isBytes_withSum hb'.out 8)
    have hlw := Hh (length_withSum h32'.out 8)
    have hdl := Hh (length_digits hs 8)
    have hdt : Hid (∀ i, i < 34 → (digits hs 8).take i ++ [dg (withSum hs 8) i 8] = (digits hs 8).take (i + 1)) := fun i h => digits_take h
    obtain ⟨ds, hds⟩ : ∃ d, d = digits hs 8 := ⟨_, rfl⟩
    obtain ⟨ws, hws⟩ : ∃ d, d = withSum hs 8 := ⟨_, rfl⟩
    rw [← hws] at hcs hbw hlw hdt
    rw [← hds] at hdl hdt
    have hds' := Hh hds
    clear hds hws
    have B := B6.out.call0 H
    clear H B6
    go_wp2_with (first
     | (go_at_call 96; refine (hsh.out _).mono ?_; rintro e w8 ⟨rfl, h3⟩; replace B := B.call0 h3; clear h3)
     | (refine st_lit rfl B rfl (cs := u8s [x / 256, x % 256]) (el := 5) (fun w' => by kernel_rfl) ?_; clear B; intro b9 w9 hb9 B)
     | (refine st_app (ys := [x / 256, x % 256]) rfl B elem_u8 rfl rfl rfl rfl (B.litAt (.head _) rfl) (by rw [h32'.out]; simp) (by rw [h32'.out]; simp) ?_; clear B; intro p7 c7 w7 B; have e34 : hs.length + [x / 256, x % 256].length = 34 := (by rw [h32'.out]; rfl); rw [← hcs.out] at B; rw [e34] at B ⊢; clear e34; have B2 := B.pop hb9; clear B; have B := B2; clear B2))
    obtain ⟨g2, og2, hg2⟩ := B.bytesAt.addr (by rw [hlw.out]; omega)
    subst hg2
    have hby2 : Hid (∀ w' L, Own w7 w' L → (∀ k ∈ L.map (·.1), w7.heap.size ≤ k) → BytesAt w' (.slice (some ⟨g2, og2, none⟩) 34 c7) ws) := fun w' L h hn => SlAt.own B.bytesAt h (fun k hk hm => by have := B.lt k hk; have := hn k hm; omega)
    have B7 := Hh B.own0
    clear B hby hb9 hsh
    have O := Buf.nil (e := 3) (k := .i64) (Own.refl w7)
    go_loopw [8, 9] (fun v8 v9 wr => ∃ (i : Nat) (p : Option Addr) (c : Nat), i ≤ 34 ∧ v9 = .int .i64 ((i : Nat) : Int) ∧ v8 = .slice p i c ∧ Buf 3 .i64 w7 wr [] v8 (ds.take i)) (fun _ v9 _ => ((34 : Nat) - intOf v9).toNat)
    case atStart => exact ⟨0, none, 0, by omega, rfl, rfl, by simpa using O⟩
    case round =>
     clear O
     obtain ⟨i, p8, c8, hi, rfl, rfl, O⟩ := hrel
     by_cases hin2 : i < 34
     · have hc : Hid (∀ w' L, Own w7 w' L → (∀ k ∈ L.map (·.1), w7.heap.size ≤ k) → Calls Tryz.prog 95 #[.slice (some ⟨g2, og2, none⟩) 34 c7, .int .i64 i, .int .i64 8] w' fun e w'' => e = .returned (.int .i64 (dg ws i 8)) ∧ Own w' w'' []) := fun w' L h hn => coef_8 w' i g2 og2 34 c7 ws (by omega) (by omega) hlw.out.symm hbw.out (hby2.out w' L h hn)
       have hst := Hh (hdt.out i hin2)
       have hl8 : Hid ((ds.take i).length = i) := by show _ = _; rw [List.length_take, hdl.out]; exact Nat.min_eq_left (Nat.le_of_lt hin2)
       obtain ⟨d, hdd⟩ : ∃ d, d = dg ws i 8 := ⟨_, rfl⟩
       rw [← hdd] at hc hst
       clear hdd
       have hsum : Hid ((ds.take i).length + [d].length = i + 1) := by show _ = _; rw [hl8.out]; rfl
       go_wp2_with (first
        | (go_at_call 54; refine (hch.out _).mono ?_; rintro e w8 ⟨rfl, h3⟩; have O2 := O.call0 h3; clear O h3; have O := O2; clear O2)
        | (go_at_call 95; refine (hc.out _ _ O.own0 (by simp)).mono ?_; rintro e w9 ⟨rfl, h3⟩; have O2 := O.call0 h3; clear O h3; have O := O2; clear O2)
        | (refine st_lit rfl O rfl (cs := i64s [d]) (el := 3) (fun w' => by kernel_rfl) ?_; clear O; intro b10 w10 hb10 O)
        | (refine st_app (ys := [d]) rfl O elem_i64 rfl rfl rfl rfl (O.litAt (.head _) rfl) (by rw [hsum.out]; omega) (by rw [hsum.out]; omega) ?_; clear O; intro p11 c11 w11 O; rw [hst.out] at O; rw [hsum.out] at O ⊢; have O2 := O.pop hb10; clear O; have O := O2; clear O2))
       exact ⟨⟨i + 1, _, _, by omega, by go_num, rfl, O⟩, by simp [intOf]; omega⟩
     · obtain rfl : i = 34 := by omega
       have hfin : Hid (ds.take 34 = ds) := List.take_of_length_le (by rw [hdl.out]; exact Nat.le_refl _)
       rw [hfin.out] at O
       go_wp2_with (go_at_call 54; refine (hch.out _).mono ?_; rintro e w8 ⟨rfl, h3⟩; have O2 := O.call0 h3; clear O h3; have O := O2; clear O2)
       have h1 := Hh O.iin
       have h2 := Hh (O.own0)
       go_ret
       exact ⟨_, rfl, by rw [← hds'.out]; exact h1.out, (B7.out.call0 h2.out).end0 (by simpa using hb3)⟩
theorem refDigits_any (w : World) (k : Nat) (hk : k = 1 ∨ k = 2 ∨ k = 4 ∨ k = 8) (hs : List Int) (h32 : hs.length = 32) (hb : IsBytes hs) :
 Calls Tryz.prog 77 #[.int .i64 k, .agg (u8s hs).toArray] w fun e w' => ∃ v, e = .returned v ∧ IIn .i64 (digits hs k) w' v ∧ Own w w' [] := by
 rcases hk with rfl | rfl | rfl | rfl
 · exact refDigits_1 w hs h32 hb
 · exact refDigits_2 w hs h32 hb
 · exact refDigits_4 w hs h32 hb
 · exact refDigits_8 w hs h32 hb
end Go.Proofs.YtfihlmnbonnekaaGreat
namespace Go.Proofs.YtfihlmnbonnekaaGreat
open Go.RowKit
theorem run_call_clo {P : Program} {a : Act} {w : World} {o : Oper} {x : Operand} {f : FuncId} {fn : Func} {cap : Array Value} {args : Array Operand} {ats : Array TypeId} {vs : Array Value} (hop : o.op = .call { callee := .value x, args, argTypes := ats }) (hx : a.eval x = .func (.func f) #[] cap)
 (hvs : args.map a.eval ++ cap = vs) (hf : P.funcs[f]? = some fn) (hname : (fn.name == "runtime.NumGoroutine") = false) (hb : fn.body.isNone = false) : (execOp a.eval o).run P w = .ok (.enter f vs) w := by
 have h1 : ¬ fn.name = "runtime.NumGoroutine" := by simpa using hname
 have h2 : ¬ fn.body = none := by cases hx : fn.body <;> simp_all
 subst hvs
 unfold execOp
 simp [hop, hx, resolve, Deferred.ofValue, invoke, callFunc, hf, h1, h2]
theorem sp_callC {P : Program} {ops : Array Oper} {w : World} {K : (World → (Nat → Prop) → Prop) → Act → Prop} {sps : List Sp} {o : Oper} {rest : List Oper} {F : World → (Nat → Prop) → Prop} {a : Act} {v : Value} (hw : Region.wanted o (yielded ops a.tmps) = true) {x : Operand} {f : Nat} {fn : Func} {cap : Array Value} {xs : Array Operand} {ats : Array TypeId} {args : Array Value}
 (hop : o.op = .call { callee := .value x, args := xs, argTypes := ats }) (hx : a.eval x = .func (.func f) #[] cap) (hargs : xs.map a.eval ++ cap = args)
 (hf : P.funcs[f]? = some fn) (hname : (fn.name == "runtime.NumGoroutine") = false) (hb : fn.body.isNone = false)
 (h1 : ∀ w', Own w w' [] → F w' (fun s => s ∈ o.looksAt ops) → Calls P f args w' fun e w'' => e = .returned v ∧ Own w' w'' [])
 (h2 : wpSp P ops w K sps rest F (a.put o.dst v)) : wpSp P ops w K (.val v :: sps) (o :: rest) F a :=
 sp_call hw (fun _ => run_call_clo hop hx hargs hf hname hb) h1 h2
theorem info_bytes : ((Tryz.prog.info? 27).bind (·.zero)).map (fun z => z.cells.toList) = some [.slice none 0 0] := by kernel_rfl
set_option maxRecDepth 100000 in
theorem digits_1 (w : World) (hs : List Int) (h32 : hs.length = 32) (hb : IsBytes hs) :
 Calls Tryz.prog 73 #[.int .i64 1, .agg (u8s hs).toArray] w fun e w' => ∃ v, e = .returned (.tuple #[v, .int .i64 0]) ∧ IIn .i64 (digits hs 1) w' v ∧ Own w w' [] := by
 have H := Own.refl w
 have h32' := Hh h32
 have hb' := Hh hb
 have hof : Hid (∀ w', Calls Tryz.prog 61 #[.int .i64 1] w' fun e w'' => e = .returned (.tuple #[.agg (i64s [1, 1, 265, 7]).toArray, .bool true]) ∧ Own w' w'' []) := fun w' => of_any w' 1
 clear h32 hb
 go_enter Tryz.func73, Tryz.ntmps73
 have z1 := tt
 go_wp2_with (first
  | (clear z1; refine st_new rfl (rn_box (cs := i64s [1]) H rfl rfl rfl) ?_; clear H; intro b2 w1 hb2 H; have z2 := tt)
  | (clear z2; refine st_new rfl (rn_box (cs := u8s hs) H rfl rfl rfl) ?_; clear H; intro b3 w2 hb3 H; have z3 := tt)
  | (refine st_val rfl (rn_load H rfl rfl (.tail _ (.head _)) rfl rfl rfl) ?_)
  | (refine st_val rfl (rn_load H rfl rfl (.tail _ (.tail _ (.tail _ (.head _)))) rfl rfl rfl) ?_)
  | (clear z3; go_at_call 61; refine (hof.out _).mono ?_; rintro e w3 ⟨rfl, h3⟩; replace H := H.call0 h3; clear h3; have z4 := tt)
  | (clear z4; refine st_new rfl (rn_alloc H rfl info_kind) ?_; clear H; intro b6 w4 hb6 H)
  | (refine st_skip rfl (rn_storeAll (vs := i64s [1, 1, 265, 7]) H rfl rfl rfl (by kernel_rfl) .head (by kernel_rfl) (oneCell_ints _ _)) ?_; clear H; intro w5 H; have z5 := tt)
  | (refine st_val rfl (rn_sliceAll rfl rfl size_u8 rfl (by omega)) ?_)
  | (clear z5; refine st_new rfl (rn_alloc H rfl info_bytes) ?_; clear H; intro b9 w6 hb9 H)
  | (refine st_skip rfl (rn_store (v := .slice (some ⟨b3, 0, none⟩) 32 32) H rfl rfl rfl (by kernel_rfl) .head (by simp) rfl) ?_; clear H; intro w7 H))
 have hc2 : Hid (∀ w' L, Own w7 w' L → (∀ k ∈ L.map (·.1), w7.heap.size ≤ k) → w'.cell? ⟨b2, 0, none⟩ = some (.int .i64 1)) := fun w' L h hn => h.old (H.cell (cs := i64s [1]) (T := 3) (by simp) 0) (fun hm => by have := H.lt (b := b2) (cs := i64s [1]) (T := 3) (by simp); have := hn _ hm; omega)
 have hc9 : Hid (∀ w', Own w7 w' [] → w'.cell? ⟨b9, 0, none⟩ = some (.slice (some ⟨b3, 0, none⟩) 32 32)) := fun w' h => h.old (H.cell (.head _) 0) (by simp)
 have hc3 : Hid (∀ w', Own w7 w' [] → BytesAt w' (.slice (some ⟨b3, 0, none⟩) 32 32) hs) := fun w' h => SlAt.own0 (Own.litM (T := 24) H (by simp) h32'.out.symm) h
 have H7 := Hh H
 clear H
 have H := Own.refl w7
 go_loopw [8, 11, 25] (fun v8 _ v25 wr => ∃ (i : Nat) (x : Int), i ≤ 256 ∧ v25 = .int .i64 ((i : Nat) : Int) ∧ v8 = .int .i64 x ∧ x = lackTo hs 1 i ∧ Own w7 wr []) (fun _ _ v25 _ => ((256 : Nat) - intOf v25).toNat)
 case atStart => exact ⟨0, 0, by omega, rfl, rfl, rfl, H⟩
 case round =>
  clear H
  obtain ⟨i, x, hi, rfl, rfl, hx, H⟩ := hrel
  have hr := lackTo_range hs 1 i
  rw [← hx] at hr
  have hx' := Hh hx
  clear hx
  obtain ⟨hr0, hr1⟩ := hr
  have hr2 : x ≤ (i : Int) * 1 := hr1
  clear hr1
  by_cases hin : i < 256
  · have hc : Hid (∀ w', Own wr w' [] → Calls Tryz.prog 93 #[.int .i64 i, .pointer (some ⟨b9, 0, none⟩), .pointer (some ⟨b2, 0, none⟩)] w' fun e w'' => e = .returned (.int .i64 (dg hs i 1)) ∧ Own w' w'' []) := fun w' h => digit_1 w' i b9 b2 b3 0 32 32 hs (by omega) (by omega) h32'.out.symm hb'.out (fun w'' h2 => hc9.out _ ((H.trans h).trans h2)) (fun w'' h2 => hc2.out _ [] ((H.trans h).trans h2) (by simp)) (fun w'' h2 => hc3.out _ ((H.trans h).trans h2))
    have hl2 : Hid (∀ w', Own wr w' [] → w'.cell? ⟨b2, 0, none⟩ = some (.int .i64 1)) := fun w' h => hc2.out _ [] (H.trans h) (by simp)
    have hd := dg_range (bs := hs) (i := i) (w := 1)
    have hst : Hid (lackTo hs 1 (i + 1) = lackTo hs 1 i + 2 ^ 1 - 1 - dg hs i 1) := rfl
    obtain ⟨d, hdd⟩ : ∃ d, d = dg hs i 1 := ⟨_, rfl⟩
    rw [← hdd] at hc hd hst
    clear hdd
    obtain ⟨hd0, hd1⟩ := hd
    have hd2 : d < 2 := hd1
    clear hd1
    have Hr := Hh H
    clear H
    go_wp2_with fail
    refine region_grow 10 (by kernel_rfl) (by kernel_rfl) (by kernel_rfl) [.val (.int .i64 x), .val (.int .i64 1), .val (.int .u64 1), .val (.int .i64 2), .val (.int .i64 (x + 2)), .val (.int .i64 (x + 2 - 1)), .val (.func (.func 93) #[] #[.pointer (some ⟨b9, 0, none⟩), .pointer (some ⟨b2, 0, none⟩)]), .val (.int .i64 i), .val (.int .i64 d), .val (.int .i64 (x + 2 - 1 - d))] rfl ?_
    try go_frame
    have z5 := tt
    repeat (first
     | (clear z5; refine sp_run (v := .int .i64 1) rfl (fun w' hw' _ => rn_cell rfl rfl rfl rfl (hl2.out _ hw')) ?_; go_frame; have z6 := tt)
     | (clear z6; refine sp_callC (v := .int .i64 d) (args := #[.int .i64 i, .pointer (some ⟨b9, 0, none⟩), .pointer (some ⟨b2, 0, none⟩)]) rfl rfl rfl (by simp [Act.eval]) Tryz.func93 (by kernel_rfl) (by kernel_rfl) (fun w' hw' _ => hc.out w' hw') ?_; go_frame)
     | (refine sp_val (fun w' hw' hF => ?_) ⟨_, rfl, nB rfl⟩ ?_
        · go_big_quiet_step (fail)
          exact rfl
        try go_frame))
    refine sp_nil ?_
    intro w' hw' hF
    have H := Hr.out.trans hw'
    clear hw' hF hc hl2
    simp only [List.drop_succ_cons, List.drop_zero]
    go_wp2_with fail
    exact ⟨⟨i + 1, _, by omega, by go_num, rfl, by rw [hst.out, ← hx'.out]; omega, H⟩, by simp [intOf]; omega⟩
  · obtain rfl : i = 256 := by omega
    have hcl : Hid (∀ w', Own w7 w' [] → Calls Tryz.prog 94 #[.slice (some ⟨b3, 0, none⟩) 32 32] w' fun e w'' => ∃ r, e = .returned r ∧ Buf 5 .u8 w' w'' [] r hs) := fun w' h => clone_any w' _ hs ⟨hc3.out _ h, fun k hk => by obtain rfl := (blk_some hk).1; exact Nat.lt_of_lt_of_le (H7.out.lt (b := b3) (cs := u8s hs) (T := 24) (by simp)) h.size⟩ (by rw [h32'.out]; omega)
    have hcs : Hid (withSum hs 1 = hs ++ [x * 128 / 256, x * 128 % 256]) := by show _ = _; unfold withSum csumOf; rw [show lackTo hs 1 (256 / 1) = lackTo hs 1 256 from rfl, ← hx'.out, show x * 2 ^ shN 1 = x * 128 from rfl, show x * 128 / 256 % 256 = x * 128 / 256 by omega]
    have hbw := Hh (isBytes_withSum hb'.out 1)
    have hlw := Hh (length_withSum h32'.out 1)
    have hdl := Hh (length_digits hs 1)
    have hdt : Hid (∀ i, i < 265 → (digits hs 1).take i ++ [dg (withSum hs 1) i 1] = (digits hs 1).take (i + 1)) := fun i h => digits_take h
    obtain ⟨ds, hds⟩ : ∃ d, d = digits hs 1 := ⟨_, rfl⟩
    obtain ⟨ws, hws⟩ : ∃ d, d = withSum hs 1 := ⟨_, rfl⟩
    rw [← hws] at hcs hbw hlw hdt
    rw [← hds] at hdl hdt
    have hds' := Hh hds
    clear hds hws
    have hwr := Hh H
    have H2 := H7.out.call0 H
    clear H H7
    have H := H2
    clear H2
    go_wp2_with (first
     | (refine st_val rfl (rn_load H rfl rfl (.tail _ (.head _)) rfl rfl rfl) ?_)
     | (refine st_val rfl (rn_load H rfl rfl (.head _) rfl rfl rfl) ?_)
     | (go_at_call 94; refine (hcl.out _ hwr.out).mono ?_; rintro e w8 ⟨r, rfl, h3⟩; have B := H.callBuf h3; clear H h3; obtain ⟨p0, c0, hr0⟩ := B.slice; subst hr0; have e32 : hs.length = 32 := h32'.out; rw [e32] at B ⊢; clear e32)
     | (refine st_lit rfl B rfl (cs := u8s [x * 128 / 256, x * 128 % 256]) (el := 5) (fun w' => by kernel_rfl) ?_; clear B; intro b9' w9 hb9' B)
     | (refine st_app (ys := [x * 128 / 256, x * 128 % 256]) rfl B elem_u8 rfl rfl rfl rfl (B.litAt (.head _) rfl) (by rw [h32'.out]; simp) (by rw [h32'.out]; simp) ?_; clear B; intro p7 c7 w10 B; have e34 : hs.length + [x * 128 / 256, x * 128 % 256].length = 34 := (by rw [h32'.out]; rfl); rw [← hcs.out] at B; rw [e34] at B ⊢; clear e34; have B2 := B.pop hb9'; clear B; have B := B2; clear B2)
     | (refine st_bufSet (u := .slice p7 34 c7) rfl B rfl rfl rfl (by kernel_rfl) (by simp) rfl ?_; clear B; intro w11 B)
     | (refine st_val rfl (rn_load B.own0 rfl rfl (.tail _ (.head _)) rfl rfl rfl) ?_))
    have hd2 : Hid (∀ w' L, Own w11 w' L → (∀ k ∈ L.map (·.1), w11.heap.size ≤ k) → w'.cell? ⟨b2, 0, none⟩ = some (.int .i64 1)) := fun w' L h hn => h.old (B.own0.cell (cs := i64s [1]) (T := 3) (by simp) 0) (fun hm => by have := B.own0.lt (b := b2) (cs := i64s [1]) (T := 3) (by simp); have := hn _ hm; omega)
    have hd9 : Hid (∀ w' L, Own w11 w' L → (∀ k ∈ L.map (·.1), w11.heap.size ≤ k) → w'.cell? ⟨b9, 0, none⟩ = some (.slice p7 34 c7)) := fun w' L h hn => h.old (B.own0.cell (.head _) 0) (fun hm => by have := B.own0.lt (.head _); have := hn _ hm; omega)
    obtain ⟨g2, og2, hg2⟩ := B.bytesAt.addr (by rw [hlw.out]; omega)
    subst hg2
    have hby2 : Hid (∀ w' L, Own w11 w' L → (∀ k ∈ L.map (·.1), w11.heap.size ≤ k) → BytesAt w' (.slice (some ⟨g2, og2, none⟩) 34 c7) ws) := fun w' L h hn => SlAt.own B.bytesAt h (fun k hk hm => by have := B.lt k hk; have := hn k hm; omega)
    have B7 := Hh B.own0
    clear B hc2 hc9 hc3 hcl hwr
    have O := Buf.nil (e := 3) (k := .i64) (Own.refl w11)
    go_loopw [12, 13, 55] (fun v12 _ v55 wr => ∃ (i : Nat) (p : Option Addr) (c : Nat), i ≤ 265 ∧ v55 = .int .i64 ((i : Nat) : Int) ∧ v12 = .slice p i c ∧ Buf 3 .i64 w11 wr [] v12 (ds.take i)) (fun _ _ v55 _ => ((265 : Nat) - intOf v55).toNat)
    case atStart => exact ⟨0, none, 0, by omega, rfl, rfl, by simpa using O⟩
    case round =>
     clear O
     obtain ⟨i, p8, c8, hi, rfl, rfl, O⟩ := hrel
     by_cases hin2 : i < 265
     · have hc : Hid (∀ w', Own w11 w' [] → Calls Tryz.prog 93 #[.int .i64 i, .pointer (some ⟨b9, 0, none⟩), .pointer (some ⟨b2, 0, none⟩)] w' fun e w'' => e = .returned (.int .i64 (dg ws i 1)) ∧ Own w' w'' []) := fun w' h => digit_1 w' i b9 b2 g2 og2 34 c7 ws (by omega) (by omega) hlw.out.symm hbw.out (fun w'' h2 => hd9.out _ _ (h.trans h2) (by simp)) (fun w'' h2 => hd2.out _ _ (h.trans h2) (by simp)) (fun w'' h2 => hby2.out _ _ (h.trans h2) (by simp))
       have hO0 : Hid (Own w11 wr []) := O.own0
       have hst := Hh (hdt.out i hin2)
       have hl8 : Hid ((ds.take i).length = i) := by show _ = _; rw [List.length_take, hdl.out]; exact Nat.min_eq_left (Nat.le_of_lt hin2)
       obtain ⟨d, hdd⟩ : ∃ d, d = dg ws i 1 := ⟨_, rfl⟩
       rw [← hdd] at hc hst
       clear hdd
       have hsum : Hid ((ds.take i).length + [d].length = i + 1) := by show _ = _; rw [hl8.out]; rfl
       go_wp2_with (first
        | (go_at_call 93; refine (hc.out _ hO0.out).mono ?_; rintro e w9 ⟨rfl, h3⟩; have O2 := O.call0 h3; clear O h3; have O := O2; clear O2)
        | (refine st_lit rfl O rfl (cs := i64s [d]) (el := 3) (fun w' => by kernel_rfl) ?_; clear O; intro b10 w10 hb10 O)
        | (refine st_app (ys := [d]) rfl O elem_i64 rfl rfl rfl rfl (O.litAt (.head _) rfl) (by rw [hsum.out]; omega) (by rw [hsum.out]; omega) ?_; clear O; intro p11 c11 w11 O; rw [hst.out] at O; rw [hsum.out] at O ⊢; have O2 := O.pop hb10; clear O; have O := O2; clear O2))
       exact ⟨⟨i + 1, _, _, by omega, by go_num, rfl, O⟩, by simp [intOf]; omega⟩
     · obtain rfl : i = 265 := by omega
       have hfin : Hid (ds.take 265 = ds) := List.take_of_length_le (by rw [hdl.out]; exact Nat.le_refl _)
       rw [hfin.out] at O
       have h1 := Hh O.iin
       have h2 := Hh (O.own0)
       clear O
       go_wp2_with fail
       go_ret2
       exact ⟨_, rfl, by rw [← hds'.out]; exact h1.out, (B7.out.call0 h2.out).end0 (by simp; omega)⟩
set_option maxRecDepth 100000 in
theorem digits_2 (w : World) (hs : List Int) (h32 : hs.length = 32) (hb : IsBytes hs) :
 Calls Tryz.prog 73 #[.int .i64 2, .agg (u8s hs).toArray] w fun e w' => ∃ v, e = .returned (.tuple #[v, .int .i64 0]) ∧ IIn .i64 (digits hs 2) w' v ∧ Own w w' [] := by
 have H := Own.refl w
 have h32' := Hh h32
 have hb' := Hh hb
 have hof : Hid (∀ w', Calls Tryz.prog 61 #[.int .i64 2] w' fun e w'' => e = .returned (.tuple #[.agg (i64s [2, 2, 133, 6]).toArray, .bool true]) ∧ Own w' w'' []) := fun w' => of_any w' 2
 clear h32 hb
 go_enter Tryz.func73, Tryz.ntmps73
 have z1 := tt
 go_wp2_with (first
  | (clear z1; refine st_new rfl (rn_box (cs := i64s [2]) H rfl rfl rfl) ?_; clear H; intro b2 w1 hb2 H; have z2 := tt)
  | (clear z2; refine st_new rfl (rn_box (cs := u8s hs) H rfl rfl rfl) ?_; clear H; intro b3 w2 hb3 H; have z3 := tt)
  | (refine st_val rfl (rn_load H rfl rfl (.tail _ (.head _)) rfl rfl rfl) ?_)
  | (refine st_val rfl (rn_load H rfl rfl (.tail _ (.tail _ (.tail _ (.head _)))) rfl rfl rfl) ?_)
  | (clear z3; go_at_call 61; refine (hof.out _).mono ?_; rintro e w3 ⟨rfl, h3⟩; replace H := H.call0 h3; clear h3; have z4 := tt)
  | (clear z4; refine st_new rfl (rn_alloc H rfl info_kind) ?_; clear H; intro b6 w4 hb6 H)
  | (refine st_skip rfl (rn_storeAll (vs := i64s [2, 2, 133, 6]) H rfl rfl rfl (by kernel_rfl) .head (by kernel_rfl) (oneCell_ints _ _)) ?_; clear H; intro w5 H; have z5 := tt)
  | (refine st_val rfl (rn_sliceAll rfl rfl size_u8 rfl (by omega)) ?_)
  | (clear z5; refine st_new rfl (rn_alloc H rfl info_bytes) ?_; clear H; intro b9 w6 hb9 H)
  | (refine st_skip rfl (rn_store (v := .slice (some ⟨b3, 0, none⟩) 32 32) H rfl rfl rfl (by kernel_rfl) .head (by simp) rfl) ?_; clear H; intro w7 H))
 have hc2 : Hid (∀ w' L, Own w7 w' L → (∀ k ∈ L.map (·.1), w7.heap.size ≤ k) → w'.cell? ⟨b2, 0, none⟩ = some (.int .i64 2)) := fun w' L h hn => h.old (H.cell (cs := i64s [2]) (T := 3) (by simp) 0) (fun hm => by have := H.lt (b := b2) (cs := i64s [2]) (T := 3) (by simp); have := hn _ hm; omega)
 have hc9 : Hid (∀ w', Own w7 w' [] → w'.cell? ⟨b9, 0, none⟩ = some (.slice (some ⟨b3, 0, none⟩) 32 32)) := fun w' h => h.old (H.cell (.head _) 0) (by simp)
 have hc3 : Hid (∀ w', Own w7 w' [] → BytesAt w' (.slice (some ⟨b3, 0, none⟩) 32 32) hs) := fun w' h => SlAt.own0 (Own.litM (T := 24) H (by simp) h32'.out.symm) h
 have H7 := Hh H
 clear H
 have H := Own.refl w7
 go_loopw [8, 11, 25] (fun v8 _ v25 wr => ∃ (i : Nat) (x : Int), i ≤ 128 ∧ v25 = .int .i64 ((i : Nat) : Int) ∧ v8 = .int .i64 x ∧ x = lackTo hs 2 i ∧ Own w7 wr []) (fun _ _ v25 _ => ((128 : Nat) - intOf v25).toNat)
 case atStart => exact ⟨0, 0, by omega, rfl, rfl, rfl, H⟩
 case round =>
  clear H
  obtain ⟨i, x, hi, rfl, rfl, hx, H⟩ := hrel
  have hr := lackTo_range hs 2 i
  rw [← hx] at hr
  have hx' := Hh hx
  clear hx
  obtain ⟨hr0, hr1⟩ := hr
  have hr2 : x ≤ (i : Int) * 3 := hr1
  clear hr1
  by_cases hin : i < 128
  · have hc : Hid (∀ w', Own wr w' [] → Calls Tryz.prog 93 #[.int .i64 i, .pointer (some ⟨b9, 0, none⟩), .pointer (some ⟨b2, 0, none⟩)] w' fun e w'' => e = .returned (.int .i64 (dg hs i 2)) ∧ Own w' w'' []) := fun w' h => digit_2 w' i b9 b2 b3 0 32 32 hs (by omega) (by omega) h32'.out.symm hb'.out (fun w'' h2 => hc9.out _ ((H.trans h).trans h2)) (fun w'' h2 => hc2.out _ [] ((H.trans h).trans h2) (by simp)) (fun w'' h2 => hc3.out _ ((H.trans h).trans h2))
    have hl2 : Hid (∀ w', Own wr w' [] → w'.cell? ⟨b2, 0, none⟩ = some (.int .i64 2)) := fun w' h => hc2.out _ [] (H.trans h) (by simp)
    have hd := dg_range (bs := hs) (i := i) (w := 2)
    have hst : Hid (lackTo hs 2 (i + 1) = lackTo hs 2 i + 2 ^ 2 - 1 - dg hs i 2) := rfl
    obtain ⟨d, hdd⟩ : ∃ d, d = dg hs i 2 := ⟨_, rfl⟩
    rw [← hdd] at hc hd hst
    clear hdd
    obtain ⟨hd0, hd1⟩ := hd
    have hd2 : d < 4 := hd1
    clear hd1
    have Hr := Hh H
    clear H
    go_wp2_with fail
    refine region_grow 10 (by kernel_rfl) (by kernel_rfl) (by kernel_rfl) [.val (.int .i64 x), .val (.int .i64 2), .val (.int .u64 2), .val (.int .i64 4), .val (.int .i64 (x + 4)), .val (.int .i64 (x + 4 - 1)), .val (.func (.func 93) #[] #[.pointer (some ⟨b9, 0, none⟩), .pointer (some ⟨b2, 0, none⟩)]), .val (.int .i64 i), .val (.int .i64 d), .val (.int .i64 (x + 4 - 1 - d))] rfl ?_
    try go_frame
    have z5 := tt
    repeat (first
     | (clear z5; refine sp_run (v := .int .i64 2) rfl (fun w' hw' _ => rn_cell rfl rfl rfl rfl (hl2.out _ hw')) ?_; go_frame; have z6 := tt)
     | (clear z6; refine sp_callC (v := .int .i64 d) (args := #[.int .i64 i, .pointer (some ⟨b9, 0, none⟩), .pointer (some ⟨b2, 0, none⟩)]) rfl rfl rfl (by simp [Act.eval]) Tryz.func93 (by kernel_rfl) (by kernel_rfl) (fun w' hw' _ => hc.out w' hw') ?_; go_frame)
     | (refine sp_val (fun w' hw' hF => ?_) ⟨_, rfl, nB rfl⟩ ?_
        · go_big_quiet_step (fail)
          exact rfl
        try go_frame))
    refine sp_nil ?_
    intro w' hw' hF
    have H := Hr.out.trans hw'
    clear hw' hF hc hl2
    simp only [List.drop_succ_cons, List.drop_zero]
    go_wp2_with fail
    exact ⟨⟨i + 1, _, by omega, by go_num, rfl, by rw [hst.out, ← hx'.out]; omega, H⟩, by simp [intOf]; omega⟩
  · obtain rfl : i = 128 := by omega
    have hcl : Hid (∀ w', Own w7 w' [] → Calls Tryz.prog 94 #[.slice (some ⟨b3, 0, none⟩) 32 32] w' fun e w'' => ∃ r, e = .returned r ∧ Buf 5 .u8 w' w'' [] r hs) := fun w' h => clone_any w' _ hs ⟨hc3.out _ h, fun k hk => by obtain rfl := (blk_some hk).1; exact Nat.lt_of_lt_of_le (H7.out.lt (b := b3) (cs := u8s hs) (T := 24) (by simp)) h.size⟩ (by rw [h32'.out]; omega)
    have hcs : Hid (withSum hs 2 = hs ++ [x * 64 / 256, x * 64 % 256]) := by show _ = _; unfold withSum csumOf; rw [show lackTo hs 2 (256 / 2) = lackTo hs 2 128 from rfl, ← hx'.out, show x * 2 ^ shN 2 = x * 64 from rfl, show x * 64 / 256 % 256 = x * 64 / 256 by omega]
    have hbw := Hh (isBytes_withSum hb'.out 2)
    have hlw := Hh (length_withSum h32'.out 2)
    have hdl := Hh (length_digits hs 2)
    have hdt : Hid (∀ i, i < 133 → (digits hs 2).take i ++ [dg (withSum hs 2) i 2] = (digits hs 2).take (i + 1)) := fun i h => digits_take h
    obtain ⟨ds, hds⟩ : ∃ d, d = digits hs 2 := ⟨_, rfl⟩
    obtain ⟨ws, hws⟩ : ∃ d, d = withSum hs 2 := ⟨_, rfl⟩
    rw [← hws] at hcs hbw hlw hdt
    rw [← hds] at hdl hdt
    have hds' := Hh hds
    clear hds hws
    have hwr := Hh H
    have H2 := H7.out.call0 H
    clear H H7
    have H := H2
    clear H2
    go_wp2_with (first
     | (refine st_val rfl (rn_load H rfl rfl (.tail _ (.head _)) rfl rfl rfl) ?_)
     | (refine st_val rfl (rn_load H rfl rfl (.head _) rfl rfl rfl) ?_)
     | (go_at_call 94; refine (hcl.out _ hwr.out).mono ?_; rintro e w8 ⟨r, rfl, h3⟩; have B := H.callBuf h3; clear H h3; obtain ⟨p0, c0, hr0⟩ := B.slice; subst hr0; have e32 : hs.length = 32 := h32'.out; rw [e32] at B ⊢; clear e32)
     | (refine st_lit rfl B rfl (cs := u8s [x * 64 / 256, x * 64 % 256]) (el := 5) (fun w' => by kernel_rfl) ?_; clear B; intro b9' w9 hb9' B)
     | (refine st_app (ys := [x * 64 / 256, x * 64 % 256]) rfl B elem_u8 rfl rfl rfl rfl (B.litAt (.head _) rfl) (by rw [h32'.out]; simp) (by rw [h32'.out]; simp) ?_; clear B; intro p7 c7 w10 B; have e34 : hs.length + [x * 64 / 256, x * 64 % 256].length = 34 := (by rw [h32'.out]; rfl); rw [← hcs.out] at B; rw [e34] at B ⊢; clear e34; have B2 := B.pop hb9'; clear B; have B := B2; clear B2)
     | (refine st_bufSet (u := .slice p7 34 c7) rfl B rfl rfl rfl (by kernel_rfl) (by simp) rfl ?_; clear B; intro w11 B)
     | (refine st_val rfl (rn_load B.own0 rfl rfl (.tail _ (.head _)) rfl rfl rfl) ?_))
    have hd2 : Hid (∀ w' L, Own w11 w' L → (∀ k ∈ L.map (·.1), w11.heap.size ≤ k) → w'.cell? ⟨b2, 0, none⟩ = some (.int .i64 2)) := fun w' L h hn => h.old (B.own0.cell (cs := i64s [2]) (T := 3) (by simp) 0) (fun hm => by have := B.own0.lt (b := b2) (cs := i64s [2]) (T := 3) (by simp); have := hn _ hm; omega)
    have hd9 : Hid (∀ w' L, Own w11 w' L → (∀ k ∈ L.map (·.1), w11.heap.size ≤ k) → w'.cell? ⟨b9, 0, none⟩ = some (.slice p7 34 c7)) := fun w' L h hn => h.old (B.own0.cell (.head _) 0) (fun hm => by have := B.own0.lt (.head _); have := hn _ hm; omega)
    obtain ⟨g2, og2, hg2⟩ := B.bytesAt.addr (by rw [hlw.out]; omega)
    subst hg2
    have hby2 : Hid (∀ w' L, Own w11 w' L → (∀ k ∈ L.map (·.1), w11.heap.size ≤ k) → BytesAt w' (.slice (some ⟨g2, og2, none⟩) 34 c7) ws) := fun w' L h hn => SlAt.own B.bytesAt h (fun k hk hm => by have := B.lt k hk; have := hn k hm; omega)
    have B7 := Hh B.own0
    clear B hc2 hc9 hc3 hcl hwr
    have O := Buf.nil (e := 3) (k := .i64) (Own.refl w11)
    go_loopw [12, 13, 55] (fun v12 _ v55 wr => ∃ (i : Nat) (p : Option Addr) (c : Nat), i ≤ 133 ∧ v55 = .int .i64 ((i : Nat) : Int) ∧ v12 = .slice p i c ∧ Buf 3 .i64 w11 wr [] v12 (ds.take i)) (fun _ _ v55 _ => ((133 : Nat) - intOf v55).toNat)
    case atStart => exact ⟨0, none, 0, by omega, rfl, rfl, by simpa using O⟩
    case round =>
     clear O
     obtain ⟨i, p8, c8, hi, rfl, rfl, O⟩ := hrel
     by_cases hin2 : i < 133
     · have hc : Hid (∀ w', Own w11 w' [] → Calls Tryz.prog 93 #[.int .i64 i, .pointer (some ⟨b9, 0, none⟩), .pointer (some ⟨b2, 0, none⟩)] w' fun e w'' => e = .returned (.int .i64 (dg ws i 2)) ∧ Own w' w'' []) := fun w' h => digit_2 w' i b9 b2 g2 og2 34 c7 ws (by omega) (by omega) hlw.out.symm hbw.out (fun w'' h2 => hd9.out _ _ (h.trans h2) (by simp)) (fun w'' h2 => hd2.out _ _ (h.trans h2) (by simp)) (fun w'' h2 => hby2.out _ _ (h.trans h2) (by simp))
       have hO0 : Hid (Own w11 wr []) := O.own0
       have hst := Hh (hdt.out i hin2)
       have hl8 : Hid ((ds.take i).length = i) := by show _ = _; rw [List.length_take, hdl.out]; exact Nat.min_eq_left (Nat.le_of_lt hin2)
       obtain ⟨d, hdd⟩ : ∃ d, d = dg ws i 2 := ⟨_, rfl⟩
       rw [← hdd] at hc hst
       clear hdd
       have hsum : Hid ((ds.take i).length + [d].length = i + 1) := by show _ = _; rw [hl8.out]; rfl
       go_wp2_with (first
        | (go_at_call 93; refine (hc.out _ hO0.out).mono ?_; rintro e w9 ⟨rfl, h3⟩; have O2 := O.call0 h3; clear O h3; have O := O2; clear O2)
        | (refine st_lit rfl O rfl (cs := i64s [d]) (el := 3) (fun w' => by kernel_rfl) ?_; clear O; intro b10 w10 hb10 O)
        | (refine st_app (ys := [d]) rfl O elem_i64 rfl rfl rfl rfl (O.litAt (.head _) rfl) (by rw [hsum.out]; omega) (by rw [hsum.out]; omega) ?_; clear O; intro p11 c11 w11 O; rw [hst.out] at O; rw [hsum.out] at O ⊢; have O2 := O.pop hb10; clear O; have O := O2; clear O2))
       exact ⟨⟨i + 1, _, _, by omega, by go_num, rfl, O⟩, by simp [intOf]; omega⟩
     · obtain rfl : i = 133 := by omega
       have hfin : Hid (ds.take 133 = ds) := List.take_of_length_le (by rw [hdl.out]; exact Nat.le_refl _)
       rw [hfin.out] at O
       have h1 := Hh O.iin
       have h2 := Hh (O.own0)
       clear O
       go_wp2_with fail
       go_ret2
       exact ⟨_, rfl, by rw [← hds'.out]; exact h1.out, (B7.out.call0 h2.out).end0 (by simp; omega)⟩
set_option maxRecDepth 100000 in
theorem digits_4 (w : World) (hs : List Int) (h32 : hs.length = 32) (hb : IsBytes hs) :
 Calls Tryz.prog 73 #[.int .i64 4, .agg (u8s hs).toArray] w fun e w' => ∃ v, e = .returned (.tuple #[v, .int .i64 0]) ∧ IIn .i64 (digits hs 4) w' v ∧ Own w w' [] := by
 have H := Own.refl w
 have h32' := Hh h32
 have hb' := Hh hb
 have hof : Hid (∀ w', Calls Tryz.prog 61 #[.int .i64 4] w' fun e w'' => e = .returned (.tuple #[.agg (i64s [4, 3, 67, 4]).toArray, .bool true]) ∧ Own w' w'' []) := fun w' => of_any w' 4
 clear h32 hb
 go_enter Tryz.func73, Tryz.ntmps73
 have z1 := tt
 go_wp2_with (first
  | (clear z1; refine st_new rfl (rn_box (cs := i64s [4]) H rfl rfl rfl) ?_; clear H; intro b2 w1 hb2 H; have z2 := tt)
  | (clear z2; refine st_new rfl (rn_box (cs := u8s hs) H rfl rfl rfl) ?_; clear H; intro b3 w2 hb3 H; have z3 := tt)
  | (refine st_val rfl (rn_load H rfl rfl (.tail _ (.head _)) rfl rfl rfl) ?_)
  | (refine st_val rfl (rn_load H rfl rfl (.tail _ (.tail _ (.tail _ (.head _)))) rfl rfl rfl) ?_)
  | (clear z3; go_at_call 61; refine (hof.out _).mono ?_; rintro e w3 ⟨rfl, h3⟩; replace H := H.call0 h3; clear h3; have z4 := tt)
  | (clear z4; refine st_new rfl (rn_alloc H rfl info_kind) ?_; clear H; intro b6 w4 hb6 H)
  | (refine st_skip rfl (rn_storeAll (vs := i64s [4, 3, 67, 4]) H rfl rfl rfl (by kernel_rfl) .head (by kernel_rfl) (oneCell_ints _ _)) ?_; clear H; intro w5 H; have z5 := tt)
  | (refine st_val rfl (rn_sliceAll rfl rfl size_u8 rfl (by omega)) ?_)
  | (clear z5; refine st_new rfl (rn_alloc H rfl info_bytes) ?_; clear H; intro b9 w6 hb9 H)
  | (refine st_skip rfl (rn_store (v := .slice (some ⟨b3, 0, none⟩) 32 32) H rfl rfl rfl (by kernel_rfl) .head (by simp) rfl) ?_; clear H; intro w7 H))
 have hc2 : Hid (∀ w' L, Own w7 w' L → (∀ k ∈ L.map (·.1), w7.heap.size ≤ k) → w'.cell? ⟨b2, 0, none⟩ = some (.int .i64 4)) := fun w' L h hn => h.old (H.cell (cs := i64s [4]) (T := 3) (by simp) 0) (fun hm => by have := H.lt (b := b2) (cs := i64s [4]) (T := 3) (by simp); have := hn _ hm; omega)
 have hc9 : Hid (∀ w', Own w7 w' [] → w'.cell? ⟨b9, 0, none⟩ = some (.slice (some ⟨b3, 0, none⟩) 32 32)) := fun w' h => h.old (H.cell (.head _) 0) (by simp)
 have hc3 : Hid (∀ w', Own w7 w' [] → BytesAt w' (.slice (some ⟨b3, 0, none⟩) 32 32) hs) := fun w' h => SlAt.own0 (Own.litM (T := 24) H (by simp) h32'.out.symm) h
 have H7 := Hh H
 clear H
 have H := Own.refl w7
 go_loopw [8, 11, 25] (fun v8 _ v25 wr => ∃ (i : Nat) (x : Int), i ≤ 64 ∧ v25 = .int .i64 ((i : Nat) : Int) ∧ v8 = .int .i64 x ∧ x = lackTo hs 4 i ∧ Own w7 wr []) (fun _ _ v25 _ => ((64 : Nat) - intOf v25).toNat)
 case atStart => exact ⟨0, 0, by omega, rfl, rfl, rfl, H⟩
 case round =>
  clear H
  obtain ⟨i, x, hi, rfl, rfl, hx, H⟩ := hrel
  have hr := lackTo_range hs 4 i
  rw [← hx] at hr
  have hx' := Hh hx
  clear hx
  obtain ⟨hr0, hr1⟩ := hr
  have hr2 : x ≤ (i : Int) * 15 := hr1
  clear hr1
  by_cases hin : i < 64
  · have hc : Hid (∀ w', Own wr w' [] → Calls Tryz.prog 93 #[.int .i64 i, .pointer (some ⟨b9, 0, none⟩), .pointer (some ⟨b2, 0, none⟩)] w' fun e w'' => e = .returned (.int .i64 (dg hs i 4)) ∧ Own w' w'' []) := fun w' h => digit_4 w' i b9 b2 b3 0 32 32 hs (by omega) (by omega) h32'.out.symm hb'.out (fun w'' h2 => hc9.out _ ((H.trans h).trans h2)) (fun w'' h2 => hc2.out _ [] ((H.trans h).trans h2) (by simp)) (fun w'' h2 => hc3.out _ ((H.trans h).trans h2))
    have hl2 : Hid (∀ w', Own wr w' [] → w'.cell? ⟨b2, 0, none⟩ = some (.int .i64 4)) := fun w' h => hc2.out _ [] (H.trans h) (by simp)
    have hd := dg_range (bs := hs) (i := i) (w := 4)
    have hst : Hid (lackTo hs 4 (i + 1) = lackTo hs 4 i + 2 ^ 4 - 1 - dg hs i 4) := rfl
    obtain ⟨d, hdd⟩ : ∃ d, d = dg hs i 4 := ⟨_, rfl⟩
    rw [← hdd] at hc hd hst
    clear hdd
    obtain ⟨hd0, hd1⟩ := hd
    have hd2 : d < 16 := hd1
    clear hd1
    have Hr := Hh H
    clear H
    go_wp2_with fail
    refine region_grow 10 (by kernel_rfl) (by kernel_rfl) (by kernel_rfl) [.val (.int .i64 x), .val (.int .i64 4), .val (.int .u64 4), .val (.int .i64 16), .val (.int .i64 (x + 16)), .val (.int .i64 (x + 16 - 1)), .val (.func (.func 93) #[] #[.pointer (some ⟨b9, 0, none⟩), .pointer (some ⟨b2, 0, none⟩)]), .val (.int .i64 i), .val (.int .i64 d), .val (.int .i64 (x + 16 - 1 - d))] rfl ?_
    try go_frame
    have z5 := tt
    repeat (first
     | (clear z5; refine sp_run (v := .int .i64 4) rfl (fun w' hw' _ => rn_cell rfl rfl rfl rfl (hl2.out _ hw')) ?_; go_frame; have z6 := tt)
     | (clear z6; refine sp_callC (v := .int .i64 d) (args := #[.int .i64 i, .pointer (some ⟨b9, 0, none⟩), .pointer (some ⟨b2, 0, none⟩)]) rfl rfl rfl (by simp [Act.eval]) Tryz.func93 (by kernel_rfl) (by kernel_rfl) (fun w' hw' _ => hc.out w' hw') ?_; go_frame)
     | (refine sp_val (fun w' hw' hF => ?_) ⟨_, rfl, nB rfl⟩ ?_
        · go_big_quiet_step (fail)
          exact rfl
        try go_frame))
    refine sp_nil ?_
    intro w' hw' hF
    have H := Hr.out.trans hw'
    clear hw' hF hc hl2
    simp only [List.drop_succ_cons, List.drop_zero]
    go_wp2_with fail
    exact ⟨⟨i + 1, _, by omega, by go_num, rfl, by rw [hst.out, ← hx'.out]; omega, H⟩, by simp [intOf]; omega⟩
  · obtain rfl : i = 64 := by omega
    have hcl : Hid (∀ w', Own w7 w' [] → Calls Tryz.prog 94 #[.slice (some ⟨b3, 0, none⟩) 32 32] w' fun e w'' => ∃ r, e = .returned r ∧ Buf 5 .u8 w' w'' [] r hs) := fun w' h => clone_any w' _ hs ⟨hc3.out _ h, fun k hk => by obtain rfl := (blk_some hk).1; exact Nat.lt_of_lt_of_le (H7.out.lt (b := b3) (cs := u8s hs) (T := 24) (by simp)) h.size⟩ (by rw [h32'.out]; omega)
    have hcs : Hid (withSum hs 4 = hs ++ [x * 16 / 256, x * 16 % 256]) := by show _ = _; unfold withSum csumOf; rw [show lackTo hs 4 (256 / 4) = lackTo hs 4 64 from rfl, ← hx'.out, show x * 2 ^ shN 4 = x * 16 from rfl, show x * 16 / 256 % 256 = x * 16 / 256 by omega]
    have hbw := Hh (isBytes_withSum hb'.out 4)
    have hlw := Hh (length_withSum h32'.out 4)
    have hdl := Hh (length_digits hs 4)
    have hdt : Hid (∀ i, i < 67 → (digits hs 4).take i ++ [dg (withSum hs 4) i 4] = (digits hs 4).take (i + 1)) := fun i h => digits_take h
    obtain ⟨ds, hds⟩ : ∃ d, d = digits hs 4 := ⟨_, rfl⟩
    obtain ⟨ws, hws⟩ : ∃ d, d = withSum hs 4 := ⟨_, rfl⟩
    rw [← hws] at hcs hbw hlw hdt
    rw [← hds] at hdl hdt
    have hds' := Hh hds
    clear hds hws
    have hwr := Hh H
    have H2 := H7.out.call0 H
    clear H H7
    have H := H2
    clear H2
    go_wp2_with (first
     | (refine st_val rfl (rn_load H rfl rfl (.tail _ (.head _)) rfl rfl rfl) ?_)
     | (refine st_val rfl (rn_load H rfl rfl (.head _) rfl rfl rfl) ?_)
     | (go_at_call 94; refine (hcl.out _ hwr.out).mono ?_; rintro e w8 ⟨r, rfl, h3⟩; have B := H.callBuf h3; clear H h3; obtain ⟨p0, c0, hr0⟩ := B.slice; subst hr0; have e32 : hs.length = 32 := h32'.out; rw [e32] at B ⊢; clear e32)
     | (refine st_lit rfl B rfl (cs := u8s [x * 16 / 256, x * 16 % 256]) (el := 5) (fun w' => by kernel_rfl) ?_; clear B; intro b9' w9 hb9' B)
     | (refine st_app (ys := [x * 16 / 256, x * 16 % 256]) rfl B elem_u8 rfl rfl rfl rfl (B.litAt (.head _) rfl) (by rw [h32'.out]; simp) (by rw [h32'.out]; simp) ?_; clear B; intro p7 c7 w10 B; have e34 : hs.length + [x * 16 / 256, x * 16 % 256].length = 34 := (by rw [h32'.out]; rfl); rw [← hcs.out] at B; rw [e34] at B ⊢; clear e34; have B2 := B.pop hb9'; clear B; have B := B2; clear B2)
     | (refine st_bufSet (u := .slice p7 34 c7) rfl B rfl rfl rfl (by kernel_rfl) (by simp) rfl ?_; clear B; intro w11 B)
     | (refine st_val rfl (rn_load B.own0 rfl rfl (.tail _ (.head _)) rfl rfl rfl) ?_))
    have hd2 : Hid (∀ w' L, Own w11 w' L → (∀ k ∈ L.map (·.1), w11.heap.size ≤ k) → w'.cell? ⟨b2, 0, none⟩ = some (.int .i64 4)) := fun w' L h hn => h.old (B.own0.cell (cs := i64s [4]) (T := 3) (by simp) 0) (fun hm => by have := B.own0.lt (b := b2) (cs := i64s [4]) (T := 3) (by simp); have := hn _ hm; omega)
    have hd9 : Hid (∀ w' L, Own w11 w' L → (∀ k ∈ L.map (·.1), w11.heap.size ≤ k) → w'.cell? ⟨b9, 0, none⟩ = some (.slice p7 34 c7)) := fun w' L h hn => h.old (B.own0.cell (.head _) 0) (fun hm => by have := B.own0.lt (.head _); have := hn _ hm; omega)
    obtain ⟨g2, og2, hg2⟩ := B.bytesAt.addr (by rw [hlw.out]; omega)
    subst hg2
    have hby2 : Hid (∀ w' L, Own w11 w' L → (∀ k ∈ L.map (·.1), w11.heap.size ≤ k) → BytesAt w' (.slice (some ⟨g2, og2, none⟩) 34 c7) ws) := fun w' L h hn => SlAt.own B.bytesAt h (fun k hk hm => by have := B.lt k hk; have := hn k hm; omega)
    have B7 := Hh B.own0
    clear B hc2 hc9 hc3 hcl hwr
    have O := Buf.nil (e := 3) (k := .i64) (Own.refl w11)
    go_loopw [12, 13, 55] (fun v12 _ v55 wr => ∃ (i : Nat) (p : Option Addr) (c : Nat), i ≤ 67 ∧ v55 = .int .i64 ((i : Nat) : Int) ∧ v12 = .slice p i c ∧ Buf 3 .i64 w11 wr [] v12 (ds.take i)) (fun _ _ v55 _ => ((67 : Nat) - intOf v55).toNat)
    case atStart => exact ⟨0, none, 0, by omega, rfl, rfl, by simpa using O⟩
    case round =>
     clear O
     obtain ⟨i, p8, c8, hi, rfl, rfl, O⟩ := hrel
     by_cases hin2 : i < 67
     · have hc : Hid (∀ w', Own w11 w' [] → Calls Tryz.prog 93 #[.int .i64 i, .pointer (some ⟨b9, 0, none⟩), .pointer (some ⟨b2, 0, none⟩)] w' fun e w'' => e = .returned (.int .i64 (dg ws i 4)) ∧ Own w' w'' []) := fun w' h => digit_4 w' i b9 b2 g2 og2 34 c7 ws (by omega) (by omega) hlw.out.symm hbw.out (fun w'' h2 => hd9.out _ _ (h.trans h2) (by simp)) (fun w'' h2 => hd2.out _ _ (h.trans h2) (by simp)) (fun w'' h2 => hby2.out _ _ (h.trans h2) (by simp))
       have hO0 : Hid (Own w11 wr []) := O.own0
       have hst := Hh (hdt.out i hin2)
       have hl8 : Hid ((ds.take i).length = i) := by show _ = _; rw [List.length_take, hdl.out]; exact Nat.min_eq_left (Nat.le_of_lt hin2)
       obtain ⟨d, hdd⟩ : ∃ d, d = dg ws i 4 := ⟨_, rfl⟩
       rw [← hdd] at hc hst
       clear hdd
       have hsum : Hid ((ds.take i).length + [d].length = i + 1) := by show _ = _; rw [hl8.out]; rfl
       go_wp2_with (first
        | (go_at_call 93; refine (hc.out _ hO0.out).mono ?_; rintro e w9 ⟨rfl, h3⟩; have O2 := O.call0 h3; clear O h3; have O := O2; clear O2)
        | (refine st_lit rfl O rfl (cs := i64s [d]) (el := 3) (fun w' => by kernel_rfl) ?_; clear O; intro b10 w10 hb10 O)
        | (refine st_app (ys := [d]) rfl O elem_i64 rfl rfl rfl rfl (O.litAt (.head _) rfl) (by rw [hsum.out]; omega) (by rw [hsum.out]; omega) ?_; clear O; intro p11 c11 w11 O; rw [hst.out] at O; rw [hsum.out] at O ⊢; have O2 := O.pop hb10; clear O; have O := O2; clear O2))
       exact ⟨⟨i + 1, _, _, by omega, by go_num, rfl, O⟩, by simp [intOf]; omega⟩
     · obtain rfl : i = 67 := by omega
       have hfin : Hid (ds.take 67 = ds) := List.take_of_length_le (by rw [hdl.out]; exact Nat.le_refl _)
       rw [hfin.out] at O
       have h1 := Hh O.iin
       have h2 := Hh (O.own0)
       clear O
       go_wp2_with fail
       go_ret2
       exact ⟨_, rfl, by rw [← hds'.out]; exact h1.out, (B7.out.call0 h2.out).end0 (by simp; omega)⟩
set_option maxRecDepth 100000 in
theorem digits_8 (w : World) (hs : List Int) (h32 : hs.length = 32) (hb : IsBytes hs) :
 Calls Tryz.prog 73 #[.int .i64 8, .agg (u8s hs).toArray] w fun e w' => ∃ v, e = .returned (.tuple #[v, .int .i64 0]) ∧ IIn .i64 (digits hs 8) w' v ∧ Own w w' [] := by
 have H := Own.refl w
 have h32' := Hh h32
 have hb' := Hh hb
 have hof : Hid (∀ w', Calls Tryz.prog 61 #[.int .i64 8] w' fun e w'' => e = .returned (.tuple #[.agg (i64s [8, 4, 34, 0]).toArray, .bool true]) ∧ Own w' w'' []) := fun w' => of_any w' 8
 clear h32 hb
 go_enter Tryz.func73, Tryz.ntmps73
 have z1 := tt
 go_wp2_with (first
  | (clear z1; refine st_new rfl (rn_box (cs := i64s [8]) H rfl rfl rfl) ?_; clear H; intro b2 w1 hb2 H; have z2 := tt)
  | (clear z2; refine st_new rfl (rn_box (cs := u8s hs) H rfl rfl rfl) ?_; clear H; intro b3 w2 hb3 H; have z3 := tt)
  | (refine st_val rfl (rn_load H rfl rfl (.tail _ (.head _)) rfl rfl rfl) ?_)
  | (refine st_val rfl (rn_load H rfl rfl (.tail _ (.tail _ (.tail _ (.head _)))) rfl rfl rfl) ?_)
  | (clear z3; go_at_call 61; refine (hof.out _).mono ?_; rintro e w3 ⟨rfl, h3⟩; replace H := H.call0 h3; clear h3; have z4 := tt)
  | (clear z4; refine st_new rfl (rn_alloc H rfl info_kind) ?_; clear H; intro b6 w4 hb6 H)
  | (refine st_skip rfl (rn_storeAll (vs := i64s [8, 4, 34, 0]) H rfl rfl rfl (by kernel_rfl) .head (by kernel_rfl) (oneCell_ints _ _)) ?_; clear H; intro w5 H; have z5 := tt)
  | (refine st_val rfl (rn_sliceAll rfl rfl size_u8 rfl (by omega)) ?_)
  | (clear z5; refine st_new rfl (rn_alloc H rfl info_bytes) ?_; clear H; intro b9 w6 hb9 H)
  | (refine st_skip rfl (rn_store (v := .slice (some ⟨b3, 0, none⟩) 32 32) H rfl rfl rfl (by kernel_rfl) .head (by simp) rfl) ?_; clear H; intro w7 H))
 have hc2 : Hid (∀ w' L, Own w7 w' L → (∀ k ∈ L.map (·.1), w7.heap.size ≤ k) → w'.cell? ⟨b2, 0, none⟩ = some (.int .i64 8)) := fun w' L h hn => h.old (H.cell (cs := i64s [8]) (T := 3) (by simp) 0) (fun hm => by have := H.lt (b := b2) (cs := i64s [8]) (T := 3) (by simp); have := hn _ hm; omega)
 have hc9 : Hid (∀ w', Own w7 w' [] → w'.cell? ⟨b9, 0, none⟩ = some (.slice (some ⟨b3, 0, none⟩) 32 32)) := fun w' h => h.old (H.cell (.head _) 0) (by simp)
 have hc3 : Hid (∀ w', Own w7 w' [] → BytesAt w' (.slice (some ⟨b3, 0, none⟩) 32 32) hs) := fun w' h => SlAt.own0 (Own.litM (T := 24) H (by simp) h32'.out.symm) h
 have H7 := Hh H
 clear H
 have H := Own.refl w7
 go_loopw [8, 11, 25] (fun v8 _ v25 wr => ∃ (i : Nat) (x : Int), i ≤ 32 ∧ v25 = .int .i64 ((i : Nat) : Int) ∧ v8 = .int .i64 x ∧ x = lackTo hs 8 i ∧ Own w7 wr []) (fun _ _ v25 _ => ((32 : Nat) - intOf v25).toNat)
 case atStart => exact ⟨0, 0, by omega, rfl, rfl, rfl, H⟩
 case round =>
  clear H
  obtain ⟨i, x, hi, rfl, rfl, hx, H⟩ := hrel
  have hr := lackTo_range hs 8 i
  rw [← hx] at hr
  have hx' := Hh hx
  clear hx
  obtain ⟨hr0, hr1⟩ := hr
  have hr2 : x ≤ (i : Int) * 255 := hr1
  clear hr1
  by_cases hin : i < 32
  · have hc : Hid (∀ w', Own wr w' [] → Calls Tryz.prog 93 #[.int .i64 i, .pointer (some ⟨b9, 0, none⟩), .pointer (some ⟨b2, 0, none⟩)] w' fun e w'' => e = .returned (.int .i64 (dg hs i 8)) ∧ Own w' w'' []) := fun w' h => digit_8 w' i b9 b2 b3 0 32 32 hs (by omega) (by omega) h32'.out.symm hb'.out (fun w'' h2 => hc9.out _ ((H.trans h).trans h2)) (fun w'' h2 => hc2.out _ [] ((H.trans h).trans h2) (by simp)) (fun w'' h2 => hc3.out _ ((H.trans h).trans h2))
    have hl2 : Hid (∀ w', Own wr w' [] → w'.cell? ⟨b2, 0, none⟩ = some (.int .i64 8)) := fun w' h => hc2.out _ [] (H.trans h) (by simp)
    have hd := dg_range (bs := hs) (i := i) (w := 8)
    have hst : Hid (lackTo hs 8 (i + 1) = lackTo hs 8 i + 2 ^ 8 - 1 - dg hs i 8) := rfl
    obtain ⟨d, hdd⟩ : ∃ d, d = dg hs i 8 := ⟨_, rfl⟩
    rw [← hdd] at hc hd hst
    clear hdd
    obtain ⟨hd0, hd1⟩ := hd
    have hd2 : d < 256 := hd1
    clear hd1
    have Hr := Hh H
    clear H
    go_wp2_with fail
    refine region_grow 10 (by kernel_rfl) (by kernel_rfl) (by kernel_rfl) [.val (.int .i64 x), .val (.int .i64 8), .val (.int .u64 8), .val (.int .i64 256), .val (.int .i64 (x + 256)), .val (.int .i64 (x + 256 - 1)), .val (.func (.func 93) #[] #[.pointer (some ⟨b9, 0, none⟩), .pointer (some ⟨b2, 0, none⟩)]), .val (.int .i64 i), .val (.int .i64 d), .val (.int .i64 (x + 256 - 1 - d))] rfl ?_
    try go_frame
    have z5 := tt
    repeat (first
     | (clear z5; refine sp_run (v := .int .i64 8) rfl (fun w' hw' _ => rn_cell rfl rfl rfl rfl (hl2.out _ hw')) ?_; go_frame; have z6 := tt)
     | (clear z6; refine sp_callC (v := .int .i64 d) (args := #[.int .i64 i, .pointer (some ⟨b9, 0, none⟩), .pointer (some ⟨b2, 0, none⟩)]) rfl rfl rfl (by simp [Act.eval]) Tryz.func93 (by kernel_rfl) (by kernel_rfl) (fun w' hw' _ => hc.out w' hw') ?_; go_frame)
     | (refine sp_val (fun w' hw' hF => ?_) ⟨_, rfl, nB rfl⟩ ?_
        · go_big_quiet_step (fail)
          exact rfl
        try go_frame))
    refine sp_nil ?_
    intro w' hw' hF
    have H := Hr.out.trans hw'
    clear hw' hF hc hl2
    simp only [List.drop_succ_cons, List.drop_zero]
    go_wp2_with fail
    exact ⟨⟨i + 1, _, by omega, by go_num, rfl, by rw [hst.out, ← hx'.out]; omega, H⟩, by simp [intOf]; omega⟩
  · obtain rfl : i = 32 := by omega
    have hcl : Hid (∀ w', Own w7 w' [] → Calls Tryz.prog 94 #[.slice (some ⟨b3, 0, none⟩) 32 32] w' fun e w'' => ∃ r, e = .returned r ∧ Buf 5 .u8 w' w'' [] r hs) := fun w' h => clone_any w' _ hs ⟨hc3.out _ h, fun k hk => by obtain rfl := (blk_some hk).1; exact Nat.lt_of_lt_of_le (H7.out.lt (b := b3) (cs := u8s hs) (T := 24) (by simp)) h.size⟩ (by rw [h32'.out]; omega)
    have hcs : Hid (withSum hs 8 = hs ++ [x / 256, x % 256]) := by show _ = _; unfold withSum csumOf; rw [show lackTo hs 8 (256 / 8) = lackTo hs 8 32 from rfl, ← hx'.out, show x * 2 ^ shN 8 = x from Int.mul_one x, show x / 256 % 256 = x / 256 by omega]
    have hbw := Hh (isBytes_withSum hb'.out 8)
    have hlw := Hh (length_withSum h32'.out 8)
    have hdl := Hh (length_digits hs 8)
    have hdt : Hid (∀ i, i < 34 → (digits hs 8).take i ++ [dg (withSum hs 8) i 8] = (digits hs 8).take (i + 1)) := fun i h => digits_take h
    obtain ⟨ds, hds⟩ : ∃ d, d = digits hs 8 := ⟨_, rfl⟩
    obtain ⟨ws, hws⟩ : ∃ d, d = withSum hs 8 := ⟨_, rfl⟩
    rw [← hws] at hcs hbw hlw hdt
    rw [← hds] at hdl hdt
    have hds' := Hh hds
    clear hds hws
    have hwr := Hh H
    have H2 := H7.out.call0 H
    clear H H7
    have H := H2
    clear H2
    go_wp2_with (first
     | (refine st_val rfl (rn_load H rfl rfl (.tail _ (.head _)) rfl rfl rfl) ?_)
     | (refine st_val rfl (rn_load H rfl rfl (.head _) rfl rfl rfl) ?_)
     | (go_at_call 94; refine (hcl.out _ hwr.out).mono ?_; rintro e w8 ⟨r, rfl, h3⟩; have B := H.callBuf h3; clear H h3; obtain ⟨p0, c0, hr0⟩ := B.slice; subst hr0; have e32 : hs.length = 32 := h32'.out; rw [e32] at B ⊢; clear e32)
     | (refine st_lit rfl B rfl (cs := u8s [x / 256, x % 256]) (el := 5) (fun w' => by kernel_rfl) ?_; clear B; intro b9' w9 hb9' B)
     | (refine st_app (ys := [x / 256, x % 256]) rfl B elem_u8 rfl rfl rfl rfl (B.litAt (.head _) rfl) (by rw [h32'.out]; simp) (by rw [h32'.out]; simp) ?_; clear B; intro p7 c7 w10 B; have e34 : hs.length + [x / 256, x % 256].length = 34 := (by rw [h32'.out]; rfl); rw [← hcs.out] at B; rw [e34] at B ⊢; clear e34; have B2 := B.pop hb9'; clear B; have B := B2; clear B2)
     | (refine st_bufSet (u := .slice p7 34 c7) rfl B rfl rfl rfl (by kernel_rfl) (by simp) rfl ?_; clear B; intro w11 B)
     | (refine st_val rfl (rn_load B.own0 rfl rfl (.tail _ (.head _)) rfl rfl rfl) ?_))
    have hd2 : Hid (∀ w' L, Own w11 w' L → (∀ k ∈ L.map (·.1), w11.heap.size ≤ k) → w'.cell? ⟨b2, 0, none⟩ = some (.int .i64 8)) := fun w' L h hn => h.old (B.own0.cell (cs := i64s [8]) (T := 3) (by simp) 0) (fun hm => by have := B.own0.lt (b := b2) (cs := i64s [8]) (T := 3) (by simp); have := hn _ hm; omega)
    have hd9 : Hid (∀ w' L, Own w11 w' L → (∀ k ∈ L.map (·.1), w11.heap.size ≤ k) → w'.cell? ⟨b9, 0, none⟩ = some (.slice p7 34 c7)) := fun w' L h hn => h.old (B.own0.cell (.head _) 0) (fun hm => by have := B.own0.lt (.head _); have := hn _ hm; omega)
    obtain ⟨g2, og2, hg2⟩ := B.bytesAt.addr (by rw [hlw.out]; omega)
    subst hg2
    have hby2 : Hid (∀ w' L, Own w11 w' L → (∀ k ∈ L.map (·.1), w11.heap.size ≤ k) → BytesAt w' (.slice (some ⟨g2, og2, none⟩) 34 c7) ws) := fun w' L h hn => SlAt.own B.bytesAt h (fun k hk hm => by have := B.lt k hk; have := hn k hm; omega)
    have B7 := Hh B.own0
    clear B hc2 hc9 hc3 hcl hwr
    have O := Buf.nil (e := 3) (k := .i64) (Own.refl w11)
    go_loopw [12, 13, 55] (fun v12 _ v55 wr => ∃ (i : Nat) (p : Option Addr) (c : Nat), i ≤ 34 ∧ v55 = .int .i64 ((i : Nat) : Int) ∧ v12 = .slice p i c ∧ Buf 3 .i64 w11 wr [] v12 (ds.take i)) (fun _ _ v55 _ => ((34 : Nat) - intOf v55).toNat)
    case atStart => exact ⟨0, none, 0, by omega, rfl, rfl, by simpa using O⟩
    case round =>
     clear O
     obtain ⟨i, p8, c8, hi, rfl, rfl, O⟩ := hrel
     by_cases hin2 : i < 34
     · have hc : Hid (∀ w', Own w11 w' [] → Calls Tryz.prog 93 #[.int .i64 i, .pointer (some ⟨b9, 0, none⟩), .pointer (some ⟨b2, 0, none⟩)] w' fun e w'' => e = .returned (.int .i64 (dg ws i 8)) ∧ Own w' w'' []) := fun w' h => digit_8 w' i b9 b2 g2 og2 34 c7 ws (by omega) (by omega) hlw.out.symm hbw.out (fun w'' h2 => hd9.out _ _ (h.trans h2) (by simp)) (fun w'' h2 => hd2.out _ _ (h.trans h2) (by simp)) (fun w'' h2 => hby2.out _ _ (h.trans h2) (by simp))
       have hO0 : Hid (Own w11 wr []) := O.own0
       have hst := Hh (hdt.out i hin2)
       have hl8 : Hid ((ds.take i).length = i) := by show _ = _; rw [List.length_take, hdl.out]; exact Nat.min_eq_left (Nat.le_of_lt hin2)
       obtain ⟨d, hdd⟩ : ∃ d, d = dg ws i 8 := ⟨_, rfl⟩
       rw [← hdd] at hc hst
       clear hdd
       have hsum : Hid ((ds.take i).length + [d].length = i + 1) := by show _ = _; rw [hl8.out]; rfl
       go_wp2_with (first
        | (go_at_call 93; refine (hc.out _ hO0.out).mono ?_; rintro e w9 ⟨rfl, h3⟩; have O2 := O.call0 h3; clear O h3; have O := O2; clear O2)
        | (refine st_lit rfl O rfl (cs := i64s [d]) (el := 3) (fun w' => by kernel_rfl) ?_; clear O; intro b10 w10 hb10 O)
        | (refine st_app (ys := [d]) rfl O elem_i64 rfl rfl rfl rfl (O.litAt (.head _) rfl) (by rw [hsum.out]; omega) (by rw [hsum.out]; omega) ?_; clear O; intro p11 c11 w11 O; rw [hst.out] at O; rw [hsum.out] at O ⊢; have O2 := O.pop hb10; clear O; have O := O2; clear O2))
       exact ⟨⟨i + 1, _, _, by omega, by go_num, rfl, O⟩, by simp [intOf]; omega⟩
     · obtain rfl : i = 34 := by omega
       have hfin : Hid (ds.take 34 = ds) := List.take_of_length_le (by rw [hdl.out]; exact Nat.le_refl _)
       rw [hfin.out] at O
       have h1 := Hh O.iin
       have h2 := Hh (O.own0)
       clear O
       go_wp2_with fail
       go_ret2
       exact ⟨_, rfl, by rw [← hds'.out]; exact h1.out, (B7.out.call0 h2.out).end0 (by simp; omega)⟩
theorem digits_any (w : World) (k : Nat) (hk : k = 1 ∨ k = 2 ∨ k = 4 ∨ k = 8) (hs : List Int) (h32 : hs.length = 32) (hb : IsBytes hs) :
 Calls Tryz.prog 73 #[.int .i64 k, .agg (u8s hs).toArray] w fun e w' => ∃ v, e = .returned (.tuple #[v, .int .i64 0]) ∧ IIn .i64 (digits hs k) w' v ∧ Own w w' [] := by
 rcases hk with rfl | rfl | rfl | rfl
 · exact digits_1 w hs h32 hb
 · exact digits_2 w hs h32 hb
 · exact digits_4 w hs h32 hb
 · exact digits_8 w hs h32 hb
end Go.Proofs.YtfihlmnbonnekaaGreat
