/- ots: one digit: ots.Digits$1 and the document's coef. -/
import Derived.Test.YtfihlmnbonnekaaKind
import Derived.Test.YtfihlmnbonnekaaEff
import Derived.Laws.BitsAllLaws
namespace Go.Proofs.Ytfihlmnbonnekaa
open Go.RowKit

/-- the i-th digit of w bits -/
def dg (bs : List Int) (i w : Nat) : Int := bs[i * w / 8]?.getD 0 / 2 ^ (8 - w - i * w % 8) % 2 ^ w

theorem and_i64 {z : Int} (k : Nat) (m : Int) (hm : m = ((2 ^ k - 1 : Nat) : Int)) (h0 : 0 ≤ z) (h1 : z < 256) (hk : k ≤ 8) : bits .and .i64 z m = z % 2 ^ k := by
  subst hm
  obtain ⟨A, rfl⟩ := Int.eq_ofNat_of_zero_le h0
  have hA : A < 256 := by omega
  have hp : 2 ^ k - 1 < 18446744073709551616 := by have : 2 ^ k ≤ 2 ^ 8 := Nat.pow_le_pow_right (by omega) hk; omega
  show IntKind.i64.wrap ((BitVec.ofInt 64 (A : Int) &&& BitVec.ofInt 64 ((2 ^ k - 1 : Nat) : Int)).toNat : Int) = _
  have h2 : ((2 : Int) ^ k) = ((2 ^ k : Nat) : Int) := by simp
  have h3 : A % 2 ^ k ≤ A := Nat.mod_le _ _
  rw [BitVec.toNat_and, BitVec.ofInt_natCast, BitVec.ofInt_natCast, BitVec.toNat_ofNat, BitVec.toNat_ofNat, Nat.mod_eq_of_lt (show A < 2 ^ 64 by omega), Nat.mod_eq_of_lt hp, Nat.and_two_pow_sub_one_eq_mod, IntKind.wrap_i64, h2, ← Int.natCast_emod]
  omega

theorem div_pow {z : Int} (a : Nat) (h0 : 0 ≤ z) (h1 : z < 256) : 0 ≤ z / 2 ^ a ∧ z / 2 ^ a < 256 := by
  have h : (1 : Int) ≤ 2 ^ a := by have := Int.pow_pos (n := 2) (m := a) (by omega); omega
  exact ⟨Int.ediv_nonneg h0 (by omega), Int.lt_of_le_of_lt (Int.ediv_le_self _ h0) h1⟩

theorem wrap64_id {z : Int} (h0 : 0 ≤ z) (h1 : z < 256) : wrap64 z = z := by unfold wrap64; omega

theorem dg_range {bs : List Int} {i w : Nat} : 0 ≤ dg bs i w ∧ dg bs i w < 2 ^ w := by
  have h : (0 : Int) < 2 ^ w := Int.pow_pos (by omega)
  exact ⟨Int.emod_nonneg _ (by omega), Int.emod_lt_of_pos _ h⟩

theorem dg_app {bs ys : List Int} {i w : Nat} (h : i * w / 8 < bs.length) : dg (bs ++ ys) i w = dg bs i w := by
  unfold dg
  rw [List.getElem?_append_left h]

/-- a byte of a slice -/
theorem byte_of {w : World} {b off c n : Nat} {bs : List Int} {i : Nat} (h : BytesAt w (.slice (some ⟨b, off, none⟩) n c) bs) (hi : i < bs.length) : w.cell? ⟨b, off + i, none⟩ = some (.int .u8 (bs[i]?.getD 0)) := by
  rcases h with ⟨_, h0, _⟩ | ⟨b2, o2, c2, h1, _, h3⟩
  · rw [h0] at hi
    have : (u8s bs).length = 0 := by omega
    simp at this
    omega
  · cases h1
    exact h3 i _ (ints_get hi)

set_option maxRecDepth 100000 in
set_option maxHeartbeats 4000000 in
theorem digit_1 (w : World) (i p1 p2 b off n c : Nat) (bs : List Int) (hi : i ≤ 300) (hj : i * 1 / 8 < n) (hn : n = bs.length) (hr : IsBytes bs)
    (h1 : ∀ w', Own w w' [] → w'.cell? ⟨p1, 0, none⟩ = some (.slice (some ⟨b, off, none⟩) n c)) (h2 : ∀ w', Own w w' [] → w'.cell? ⟨p2, 0, none⟩ = some (.int .i64 1)) (h3 : ∀ w', Own w w' [] → BytesAt w' (.slice (some ⟨b, off, none⟩) n c) bs) :
    Calls Try.prog 100 #[.int .i64 i, .pointer (some ⟨p1, 0, none⟩), .pointer (some ⟨p2, 0, none⟩)] w fun e w' => e = .returned (.int .i64 (dg bs i 1)) ∧ Own w w' [] := by
  have H := Own.refl w
  have h1' := Lib.hid h1
  have h2' := Lib.hid h2
  obtain ⟨z, hz⟩ : ∃ z, z = bs[i * 1 / 8]?.getD 0 := ⟨_, rfl⟩
  have hz01 : 0 ≤ z ∧ z < 256 := by rw [hz]; exact hr _ (by omega)
  have hc : Hid (∀ w', Own w w' [] → w'.cell? ⟨b, off + i / 8, none⟩ = some (.int .u8 z)) := fun w' h => by have e := byte_of (i := i * 1 / 8) (h3 w' h) (by omega); have q : i * 1 / 8 = i / 8 := (by omega); rw [← hz, q] at e; exact e
  have hd : Hid (dg bs i 1 = z / 2 ^ (8 - 1 - i * 1 % 8) % 2 ^ 1) := by show _ = _; rw [hz]; rfl
  obtain ⟨d, hdd⟩ : ∃ d, d = dg bs i 1 := ⟨_, rfl⟩
  rw [← hdd] at hd ⊢
  have hw : ∀ m, Own w (w.drewN m) [] := fun m => H.drewN m
  clear h1 h2 h3 hr hn hz hdd
  go_enter Try.func100, Try.ntmps100
  go_wp2_with fail
  refine region_drew 22 (by kernel_rfl) (by kernel_rfl) (by kernel_rfl) ?_
  simp only [List.take_succ_cons, List.take_zero, List.drop_succ_cons, List.drop_zero]
  repeat (first
    | (refine qd_val rfl (fun m => rn_cell rfl rfl rfl rfl (h1'.out _ (hw m))) ?_; go_frame)
    | (refine qd_val rfl (fun m => rn_cell rfl rfl rfl rfl (h2'.out _ (hw m))) ?_; go_frame)
    | (refine qd_val rfl (fun m => rn_cell rfl rfl rfl rfl (hc.out _ (hw m))) ?_; go_frame)
    | go_big_quiet_step (fail))
  refine wpQuiet_nil ?_
  rintro w' hw'
  have H' := Lib.hid (show Own w w' [] by obtain ⟨m, rfl⟩ := hw'; exact hw m)
  clear hw' H
  go_wp2_with fail
  go_ret
  refine ⟨congrArg (fun q => Ending.returned (.int .i64 q)) ?_, H'.out⟩
  obtain ⟨g1, g2⟩ := div_pow (7 - i % 8) hz01.1 hz01.2
  rw [hd.out]
  rw [Nat.mul_one]
  exact and_i64 1 1 rfl g1 g2 (by omega)

set_option maxRecDepth 100000 in
set_option maxHeartbeats 4000000 in
theorem digit_2 (w : World) (i p1 p2 b off n c : Nat) (bs : List Int) (hi : i ≤ 300) (hj : i * 2 / 8 < n) (hn : n = bs.length) (hr : IsBytes bs)
    (h1 : ∀ w', Own w w' [] → w'.cell? ⟨p1, 0, none⟩ = some (.slice (some ⟨b, off, none⟩) n c)) (h2 : ∀ w', Own w w' [] → w'.cell? ⟨p2, 0, none⟩ = some (.int .i64 2)) (h3 : ∀ w', Own w w' [] → BytesAt w' (.slice (some ⟨b, off, none⟩) n c) bs) :
    Calls Try.prog 100 #[.int .i64 i, .pointer (some ⟨p1, 0, none⟩), .pointer (some ⟨p2, 0, none⟩)] w fun e w' => e = .returned (.int .i64 (dg bs i 2)) ∧ Own w w' [] := by
  have H := Own.refl w
  have h1' := Lib.hid h1
  have h2' := Lib.hid h2
  obtain ⟨z, hz⟩ : ∃ z, z = bs[i * 2 / 8]?.getD 0 := ⟨_, rfl⟩
  have hz01 : 0 ≤ z ∧ z < 256 := by rw [hz]; exact hr _ (by omega)
  have hc : Hid (∀ w', Own w w' [] → w'.cell? ⟨b, off + i * 2 / 8, none⟩ = some (.int .u8 z)) := fun w' h => by have e := byte_of (i := i * 2 / 8) (h3 w' h) (by omega); have q : i * 2 / 8 = i * 2 / 8 := (by omega); rw [← hz, q] at e; exact e
  have hd : Hid (dg bs i 2 = z / 2 ^ (8 - 2 - i * 2 % 8) % 2 ^ 2) := by show _ = _; rw [hz]; rfl
  obtain ⟨d, hdd⟩ : ∃ d, d = dg bs i 2 := ⟨_, rfl⟩
  rw [← hdd] at hd ⊢
  have hw : ∀ m, Own w (w.drewN m) [] := fun m => H.drewN m
  clear h1 h2 h3 hr hn hz hdd
  go_enter Try.func100, Try.ntmps100
  go_wp2_with fail
  refine region_drew 22 (by kernel_rfl) (by kernel_rfl) (by kernel_rfl) ?_
  simp only [List.take_succ_cons, List.take_zero, List.drop_succ_cons, List.drop_zero]
  repeat (first
    | (refine qd_val rfl (fun m => rn_cell rfl rfl rfl rfl (h1'.out _ (hw m))) ?_; go_frame)
    | (refine qd_val rfl (fun m => rn_cell rfl rfl rfl rfl (h2'.out _ (hw m))) ?_; go_frame)
    | (refine qd_val rfl (fun m => rn_cell rfl rfl rfl rfl (hc.out _ (hw m))) ?_; go_frame)
    | go_big_quiet_step (fail))
  refine wpQuiet_nil ?_
  rintro w' hw'
  have H' := Lib.hid (show Own w w' [] by obtain ⟨m, rfl⟩ := hw'; exact hw m)
  clear hw' H
  go_wp2_with fail
  go_ret
  refine ⟨congrArg (fun q => Ending.returned (.int .i64 q)) ?_, H'.out⟩
  obtain ⟨g1, g2⟩ := div_pow (6 - i * 2 % 8) hz01.1 hz01.2
  rw [hd.out]
  exact and_i64 2 3 rfl g1 g2 (by omega)

set_option maxRecDepth 100000 in
set_option maxHeartbeats 4000000 in
theorem digit_4 (w : World) (i p1 p2 b off n c : Nat) (bs : List Int) (hi : i ≤ 300) (hj : i * 4 / 8 < n) (hn : n = bs.length) (hr : IsBytes bs)
    (h1 : ∀ w', Own w w' [] → w'.cell? ⟨p1, 0, none⟩ = some (.slice (some ⟨b, off, none⟩) n c)) (h2 : ∀ w', Own w w' [] → w'.cell? ⟨p2, 0, none⟩ = some (.int .i64 4)) (h3 : ∀ w', Own w w' [] → BytesAt w' (.slice (some ⟨b, off, none⟩) n c) bs) :
    Calls Try.prog 100 #[.int .i64 i, .pointer (some ⟨p1, 0, none⟩), .pointer (some ⟨p2, 0, none⟩)] w fun e w' => e = .returned (.int .i64 (dg bs i 4)) ∧ Own w w' [] := by
  have H := Own.refl w
  have h1' := Lib.hid h1
  have h2' := Lib.hid h2
  obtain ⟨z, hz⟩ : ∃ z, z = bs[i * 4 / 8]?.getD 0 := ⟨_, rfl⟩
  have hz01 : 0 ≤ z ∧ z < 256 := by rw [hz]; exact hr _ (by omega)
  have hc : Hid (∀ w', Own w w' [] → w'.cell? ⟨b, off + i * 4 / 8, none⟩ = some (.int .u8 z)) := fun w' h => by have e := byte_of (i := i * 4 / 8) (h3 w' h) (by omega); have q : i * 4 / 8 = i * 4 / 8 := (by omega); rw [← hz, q] at e; exact e
  have hd : Hid (dg bs i 4 = z / 2 ^ (8 - 4 - i * 4 % 8) % 2 ^ 4) := by show _ = _; rw [hz]; rfl
  obtain ⟨d, hdd⟩ : ∃ d, d = dg bs i 4 := ⟨_, rfl⟩
  rw [← hdd] at hd ⊢
  have hw : ∀ m, Own w (w.drewN m) [] := fun m => H.drewN m
  clear h1 h2 h3 hr hn hz hdd
  go_enter Try.func100, Try.ntmps100
  go_wp2_with fail
  refine region_drew 22 (by kernel_rfl) (by kernel_rfl) (by kernel_rfl) ?_
  simp only [List.take_succ_cons, List.take_zero, List.drop_succ_cons, List.drop_zero]
  repeat (first
    | (refine qd_val rfl (fun m => rn_cell rfl rfl rfl rfl (h1'.out _ (hw m))) ?_; go_frame)
    | (refine qd_val rfl (fun m => rn_cell rfl rfl rfl rfl (h2'.out _ (hw m))) ?_; go_frame)
    | (refine qd_val rfl (fun m => rn_cell rfl rfl rfl rfl (hc.out _ (hw m))) ?_; go_frame)
    | go_big_quiet_step (fail))
  refine wpQuiet_nil ?_
  rintro w' hw'
  have H' := Lib.hid (show Own w w' [] by obtain ⟨m, rfl⟩ := hw'; exact hw m)
  clear hw' H
  go_wp2_with fail
  go_ret
  refine ⟨congrArg (fun q => Ending.returned (.int .i64 q)) ?_, H'.out⟩
  obtain ⟨g1, g2⟩ := div_pow (4 - i * 4 % 8) hz01.1 hz01.2
  rw [hd.out]
  exact and_i64 4 15 rfl g1 g2 (by omega)

set_option maxRecDepth 100000 in
set_option maxHeartbeats 4000000 in
theorem digit_8 (w : World) (i p1 p2 b off n c : Nat) (bs : List Int) (hi : i ≤ 300) (hj : i * 8 / 8 < n) (hn : n = bs.length) (hr : IsBytes bs)
    (h1 : ∀ w', Own w w' [] → w'.cell? ⟨p1, 0, none⟩ = some (.slice (some ⟨b, off, none⟩) n c)) (h2 : ∀ w', Own w w' [] → w'.cell? ⟨p2, 0, none⟩ = some (.int .i64 8)) (h3 : ∀ w', Own w w' [] → BytesAt w' (.slice (some ⟨b, off, none⟩) n c) bs) :
    Calls Try.prog 100 #[.int .i64 i, .pointer (some ⟨p1, 0, none⟩), .pointer (some ⟨p2, 0, none⟩)] w fun e w' => e = .returned (.int .i64 (dg bs i 8)) ∧ Own w w' [] := by
  have H := Own.refl w
  have h1' := Lib.hid h1
  have h2' := Lib.hid h2
  obtain ⟨z, hz⟩ : ∃ z, z = bs[i * 8 / 8]?.getD 0 := ⟨_, rfl⟩
  have hz01 : 0 ≤ z ∧ z < 256 := by rw [hz]; exact hr _ (by omega)
  have hc : Hid (∀ w', Own w w' [] → w'.cell? ⟨b, off + i, none⟩ = some (.int .u8 z)) := fun w' h => by have e := byte_of (i := i * 8 / 8) (h3 w' h) (by omega); have q : i * 8 / 8 = i := (by omega); rw [← hz, q] at e; exact e
  have hd : Hid (dg bs i 8 = z / 2 ^ (8 - 8 - i * 8 % 8) % 2 ^ 8) := by show _ = _; rw [hz]; rfl
  obtain ⟨d, hdd⟩ : ∃ d, d = dg bs i 8 := ⟨_, rfl⟩
  rw [← hdd] at hd ⊢
  have hw : ∀ m, Own w (w.drewN m) [] := fun m => H.drewN m
  clear h1 h2 h3 hr hn hz hdd
  go_enter Try.func100, Try.ntmps100
  go_wp2_with fail
  refine region_drew 22 (by kernel_rfl) (by kernel_rfl) (by kernel_rfl) ?_
  simp only [List.take_succ_cons, List.take_zero, List.drop_succ_cons, List.drop_zero]
  repeat (first
    | (refine qd_val rfl (fun m => rn_cell rfl rfl rfl rfl (h1'.out _ (hw m))) ?_; go_frame)
    | (refine qd_val rfl (fun m => rn_cell rfl rfl rfl rfl (h2'.out _ (hw m))) ?_; go_frame)
    | (refine qd_val rfl (fun m => rn_cell rfl rfl rfl rfl (hc.out _ (hw m))) ?_; go_frame)
    | go_big_quiet_step (fail))
  refine wpQuiet_nil ?_
  rintro w' hw'
  have H' := Lib.hid (show Own w w' [] by obtain ⟨m, rfl⟩ := hw'; exact hw m)
  clear hw' H
  go_wp2_with fail
  go_ret
  refine ⟨congrArg (fun q => Ending.returned (.int .i64 q)) ?_, H'.out⟩
  obtain ⟨g1, g2⟩ := div_pow (0) hz01.1 hz01.2
  rw [hd.out]
  rw [Nat.mul_mod_left]
  simp only [Nat.sub_self, Int.pow_zero, Int.ediv_one] at g1 g2 ⊢
  exact and_i64 8 255 rfl g1 g2 (by omega)

set_option maxRecDepth 100000 in
set_option maxHeartbeats 4000000 in
theorem coef_1 (w : World) (i b off n c : Nat) (bs : List Int) (hi : i ≤ 300) (hj : i * 1 / 8 < n) (hn : n = bs.length) (hr : IsBytes bs) (h3 : BytesAt w (.slice (some ⟨b, off, none⟩) n c) bs) :
    Calls Try.prog 97 #[.slice (some ⟨b, off, none⟩) n c, .int .i64 i, .int .i64 1] w fun e w' => e = .returned (.int .i64 (dg bs i 1)) ∧ Own w w' [] := by
  have H := Own.refl w
  obtain ⟨z, hz⟩ : ∃ z, z = bs[i * 1 / 8]?.getD 0 := ⟨_, rfl⟩
  have hz01 : 0 ≤ z ∧ z < 256 := by rw [hz]; exact hr _ (by omega)
  have hc : Hid (w.cell? ⟨b, off + i / 8, none⟩ = some (.int .u8 z)) := by show _ = _; have e := byte_of (i := i * 1 / 8) h3 (by omega); have q : i * 1 / 8 = i / 8 := (by omega); rw [← hz, q] at e; exact e
  have hd : Hid (dg bs i 1 = z / 2 ^ (8 - 1 - i * 1 % 8) % 2 ^ 1) := by show _ = _; rw [hz]; rfl
  obtain ⟨d, hdd⟩ : ∃ d, d = dg bs i 1 := ⟨_, rfl⟩
  rw [← hdd] at hd ⊢
  clear h3 hr hn hz hdd
  go_enter Try.func97, Try.ntmps97
  go_wp2_with (refine st_val rfl (rn_cell rfl rfl rfl rfl hc.out) ?_)
  have H' := Lib.hid H
  clear H
  go_ret
  refine ⟨congrArg (fun q => Ending.returned (.int .i64 q)) ?_, H'.out⟩
  obtain ⟨g1, g2⟩ := div_pow (7 - i % 8) hz01.1 hz01.2
  rw [hd.out]
  rw [wrap64_id g1 g2]
  rw [Nat.mul_one]
  exact and_i64 1 1 rfl g1 g2 (by omega)

set_option maxRecDepth 100000 in
set_option maxHeartbeats 4000000 in
theorem coef_2 (w : World) (i b off n c : Nat) (bs : List Int) (hi : i ≤ 300) (hj : i * 2 / 8 < n) (hn : n = bs.length) (hr : IsBytes bs) (h3 : BytesAt w (.slice (some ⟨b, off, none⟩) n c) bs) :
    Calls Try.prog 97 #[.slice (some ⟨b, off, none⟩) n c, .int .i64 i, .int .i64 2] w fun e w' => e = .returned (.int .i64 (dg bs i 2)) ∧ Own w w' [] := by
  have H := Own.refl w
  obtain ⟨z, hz⟩ : ∃ z, z = bs[i * 2 / 8]?.getD 0 := ⟨_, rfl⟩
  have hz01 : 0 ≤ z ∧ z < 256 := by rw [hz]; exact hr _ (by omega)
  have hc : Hid (w.cell? ⟨b, off + i * 2 / 8, none⟩ = some (.int .u8 z)) := by show _ = _; have e := byte_of (i := i * 2 / 8) h3 (by omega); have q : i * 2 / 8 = i * 2 / 8 := (by omega); rw [← hz, q] at e; exact e
  have hd : Hid (dg bs i 2 = z / 2 ^ (8 - 2 - i * 2 % 8) % 2 ^ 2) := by show _ = _; rw [hz]; rfl
  obtain ⟨d, hdd⟩ : ∃ d, d = dg bs i 2 := ⟨_, rfl⟩
  rw [← hdd] at hd ⊢
  clear h3 hr hn hz hdd
  go_enter Try.func97, Try.ntmps97
  go_wp2_with (refine st_val rfl (rn_cell rfl rfl rfl rfl hc.out) ?_)
  have H' := Lib.hid H
  clear H
  go_ret
  refine ⟨congrArg (fun q => Ending.returned (.int .i64 q)) ?_, H'.out⟩
  obtain ⟨g1, g2⟩ := div_pow (6 - i * 2 % 8) hz01.1 hz01.2
  rw [hd.out]
  rw [wrap64_id g1 g2]
  exact and_i64 2 3 rfl g1 g2 (by omega)

set_option maxRecDepth 100000 in
set_option maxHeartbeats 4000000 in
theorem coef_4 (w : World) (i b off n c : Nat) (bs : List Int) (hi : i ≤ 300) (hj : i * 4 / 8 < n) (hn : n = bs.length) (hr : IsBytes bs) (h3 : BytesAt w (.slice (some ⟨b, off, none⟩) n c) bs) :
    Calls Try.prog 97 #[.slice (some ⟨b, off, none⟩) n c, .int .i64 i, .int .i64 4] w fun e w' => e = .returned (.int .i64 (dg bs i 4)) ∧ Own w w' [] := by
  have H := Own.refl w
  obtain ⟨z, hz⟩ : ∃ z, z = bs[i * 4 / 8]?.getD 0 := ⟨_, rfl⟩
  have hz01 : 0 ≤ z ∧ z < 256 := by rw [hz]; exact hr _ (by omega)
  have hc : Hid (w.cell? ⟨b, off + i * 4 / 8, none⟩ = some (.int .u8 z)) := by show _ = _; have e := byte_of (i := i * 4 / 8) h3 (by omega); have q : i * 4 / 8 = i * 4 / 8 := (by omega); rw [← hz, q] at e; exact e
  have hd : Hid (dg bs i 4 = z / 2 ^ (8 - 4 - i * 4 % 8) % 2 ^ 4) := by show _ = _; rw [hz]; rfl
  obtain ⟨d, hdd⟩ : ∃ d, d = dg bs i 4 := ⟨_, rfl⟩
  rw [← hdd] at hd ⊢
  clear h3 hr hn hz hdd
  go_enter Try.func97, Try.ntmps97
  go_wp2_with (refine st_val rfl (rn_cell rfl rfl rfl rfl hc.out) ?_)
  have H' := Lib.hid H
  clear H
  go_ret
  refine ⟨congrArg (fun q => Ending.returned (.int .i64 q)) ?_, H'.out⟩
  obtain ⟨g1, g2⟩ := div_pow (4 - i * 4 % 8) hz01.1 hz01.2
  rw [hd.out]
  rw [wrap64_id g1 g2]
  exact and_i64 4 15 rfl g1 g2 (by omega)

set_option maxRecDepth 100000 in
set_option maxHeartbeats 4000000 in
theorem coef_8 (w : World) (i b off n c : Nat) (bs : List Int) (hi : i ≤ 300) (hj : i * 8 / 8 < n) (hn : n = bs.length) (hr : IsBytes bs) (h3 : BytesAt w (.slice (some ⟨b, off, none⟩) n c) bs) :
    Calls Try.prog 97 #[.slice (some ⟨b, off, none⟩) n c, .int .i64 i, .int .i64 8] w fun e w' => e = .returned (.int .i64 (dg bs i 8)) ∧ Own w w' [] := by
  have H := Own.refl w
  obtain ⟨z, hz⟩ : ∃ z, z = bs[i * 8 / 8]?.getD 0 := ⟨_, rfl⟩
  have hz01 : 0 ≤ z ∧ z < 256 := by rw [hz]; exact hr _ (by omega)
  have hc : Hid (w.cell? ⟨b, off + i, none⟩ = some (.int .u8 z)) := by show _ = _; have e := byte_of (i := i * 8 / 8) h3 (by omega); have q : i * 8 / 8 = i := (by omega); rw [← hz, q] at e; exact e
  have hd : Hid (dg bs i 8 = z / 2 ^ (8 - 8 - i * 8 % 8) % 2 ^ 8) := by show _ = _; rw [hz]; rfl
  obtain ⟨d, hdd⟩ : ∃ d, d = dg bs i 8 := ⟨_, rfl⟩
  rw [← hdd] at hd ⊢
  clear h3 hr hn hz hdd
  go_enter Try.func97, Try.ntmps97
  go_wp2_with (refine st_val rfl (rn_cell rfl rfl rfl rfl hc.out) ?_)
  have H' := Lib.hid H
  clear H
  go_ret
  refine ⟨congrArg (fun q => Ending.returned (.int .i64 q)) ?_, H'.out⟩
  obtain ⟨g1, g2⟩ := div_pow (0) hz01.1 hz01.2
  rw [hd.out]
  rw [Nat.mul_mod_left]
  simp only [Nat.sub_self, Int.pow_zero, Int.ediv_one] at g1 g2 ⊢
  exact and_i64 8 255 rfl g1 g2 (by omega)

theorem digit_any (w : World) (i k p1 p2 b off n c : Nat) (bs : List Int) (hk : k = 1 ∨ k = 2 ∨ k = 4 ∨ k = 8) (hi : i ≤ 300) (hj : i * k / 8 < n) (hn : n = bs.length) (hr : IsBytes bs)
    (h1 : ∀ w', Own w w' [] → w'.cell? ⟨p1, 0, none⟩ = some (.slice (some ⟨b, off, none⟩) n c)) (h2 : ∀ w', Own w w' [] → w'.cell? ⟨p2, 0, none⟩ = some (.int .i64 k)) (h3 : ∀ w', Own w w' [] → BytesAt w' (.slice (some ⟨b, off, none⟩) n c) bs) :
    Calls Try.prog 100 #[.int .i64 i, .pointer (some ⟨p1, 0, none⟩), .pointer (some ⟨p2, 0, none⟩)] w fun e w' => e = .returned (.int .i64 (dg bs i k)) ∧ Own w w' [] := by
  rcases hk with rfl | rfl | rfl | rfl
  · exact digit_1 w i p1 p2 b off n c bs hi hj hn hr h1 h2 h3
  · exact digit_2 w i p1 p2 b off n c bs hi hj hn hr h1 h2 h3
  · exact digit_4 w i p1 p2 b off n c bs hi hj hn hr h1 h2 h3
  · exact digit_8 w i p1 p2 b off n c bs hi hj hn hr h1 h2 h3

theorem coef_any (w : World) (i k b off n c : Nat) (bs : List Int) (hk : k = 1 ∨ k = 2 ∨ k = 4 ∨ k = 8) (hi : i ≤ 300) (hj : i * k / 8 < n) (hn : n = bs.length) (hr : IsBytes bs) (h3 : BytesAt w (.slice (some ⟨b, off, none⟩) n c) bs) :
    Calls Try.prog 97 #[.slice (some ⟨b, off, none⟩) n c, .int .i64 i, .int .i64 k] w fun e w' => e = .returned (.int .i64 (dg bs i k)) ∧ Own w w' [] := by
  rcases hk with rfl | rfl | rfl | rfl
  · exact coef_1 w i b off n c bs hi hj hn hr h3
  · exact coef_2 w i b off n c bs hi hj hn hr h3
  · exact coef_4 w i b off n c bs hi hj hn hr h3
  · exact coef_8 w i b off n c bs hi hj hn hr h3

end Go.Proofs.Ytfihlmnbonnekaa
