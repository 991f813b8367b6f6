/- chirographlaw4.LmsForms: the walk. -/
import Derived.Test.YtfihlmnbonnekaaLLaw
import Derived.Laws.BitsAllLaws
namespace Go.Proofs.Ytfihlmnbonnekaa
open Go.RowKit

theorem xor_range {z x : Int} (hz : 0 ≤ z ∧ z < 256) (hx : 0 ≤ x ∧ x < 256) : 0 ≤ bits .xor .u8 z x ∧ bits .xor .u8 z x < 256 := by
  rw [u8_xor z x hz.1 hz.2 hx.1 hx.2]
  have h := Nat.xor_lt_two_pow (x := z.toNat) (y := x.toNat) (n := 8) (by omega) (by omega)
  omega
theorem xor_zero (x : Int) (hx : 0 ≤ x ∧ x < 256) : bits .xor .u8 0 x = x := by
  rw [u8_xor 0 x (by omega) (by omega) hx.1 hx.2]
  simp
  omega
/-- zeros, but for two bytes; a byte elsewhere turned -/
def frmB (k : Nat) (A B : Int) : List Int := ((List.replicate k 0).set 3 A).set 7 B
def frmX (k : Nat) (A B : Int) (i : Nat) (x : Int) : List Int := (frmB k A B).set i (bits .xor .u8 ((frmB k A B)[i]?.getD 0) x)
theorem frmB_at {k : Nat} (hk : 8 ≤ k) (A B : Int) (i : Nat) : (frmB k A B)[i]?.getD 0 = if i = 3 then A else if i = 7 then B else 0 := by
  unfold frmB
  by_cases h7 : i = 7
  · subst h7
    rw [List.getElem?_set_self (by simp; omega)]
    rfl
  rw [List.getElem?_set_ne (by omega)]
  by_cases h3 : i = 3
  · subst h3
    rw [List.getElem?_set_self (by simp; omega)]
    rfl
  rw [List.getElem?_set_ne (by omega), List.getElem?_replicate, if_neg h3, if_neg h7]
  split <;> rfl
theorem frmX_at {k : Nat} (hk : 8 ≤ k) (A B : Int) {i : Nat} (hi : i < k) (h3 : i ≠ 3) (h7 : i ≠ 7) (x : Int) (hx : 0 ≤ x ∧ x < 256) (j : Nat) : (frmX k A B i x)[j]?.getD 0 = if j = i then x else if j = 3 then A else if j = 7 then B else 0 := by
  unfold frmX
  rw [frmB_at hk, if_neg h3, if_neg h7, xor_zero x hx]
  by_cases h : j = i
  · subst h
    rw [List.getElem?_set_self (by unfold frmB; simpa using hi), if_pos rfl]
    rfl
  · rw [List.getElem?_set_ne (fun e => h e.symm), frmB_at hk, if_neg h]
theorem length_frmX (k : Nat) (A B : Int) (i : Nat) (x : Int) : (frmX k A B i x).length = k := by unfold frmX frmB; simp
theorem beN4 (xs : List Int) : beN xs 4 = ((xs[0]?.getD 0 * 256 + xs[1]?.getD 0) * 256 + xs[2]?.getD 0) * 256 + xs[3]?.getD 0 := by simp [beN]
theorem isBytes_frmX {k : Nat} (hk : 8 ≤ k) {A B : Int} (hA : 0 ≤ A ∧ A < 8) (hB : 0 ≤ B ∧ B < 7) {i : Nat} (hi : i < k) (h3 : i ≠ 3) (h7 : i ≠ 7) {x : Int} (hx : 0 ≤ x ∧ x < 256) : IsBytes (frmX k A B i x) := fun j _ => by
  rw [frmX_at hk A B hi h3 h7 x hx]
  repeat' split
  all_goals omega
theorem widthV_pos (n : Nat) (t d : Int) : 0 < widthV n t d ↔ n = 56 ∧ t = 5 ∧ 1 ≤ d ∧ d ≤ 4 := by
  unfold widthV
  repeat' split
  all_goals omega
theorem frm_width {k : Nat} (hk : 8 ≤ k) {A B : Int} (hA : 0 ≤ A ∧ A < 8) (hB : 0 ≤ B ∧ B < 7) {i : Nat} (hi : i < k) (h3 : i ≠ 3) (h7 : i ≠ 7) {x : Int} (hx : 0 ≤ x ∧ x < 256) :
    0 < widthL (frmX k A B i x) ↔ k = 56 ∧ A = 5 ∧ 1 ≤ B ∧ B ≤ 4 ∧ (8 ≤ i ∨ x = 0) := by
  have hl := length_frmX k A B i x
  have e1 : num4V (frmX k A B i x) false = beN (frmX k A B i x) 4 := by unfold num4V; rw [if_neg (by simp; omega)]
  have e2 : num4X (frmX k A B i x) false = (frmX k A B i x).drop 4 := by unfold num4X; rw [if_neg (by simp; omega)]
  have e3 : num4W (frmX k A B i x) false = false := by unfold num4W; rw [if_neg (by simp; omega)]
  have e4 : num4V ((frmX k A B i x).drop 4) false = beN ((frmX k A B i x).drop 4) 4 := by unfold num4V; rw [if_neg (by simp; omega)]
  have hp := frmX_at hk A B hi h3 h7 x hx
  have p0 := hp 0
  have p1 := hp 1
  have p2 := hp 2
  have p3 := hp 3
  have p4 := hp 4
  have p5 := hp 5
  have p6 := hp 6
  have p7 := hp 7
  unfold widthL
  rw [hl, e1, e2, e3, e4, beN4, beN4, widthV_pos]
  simp only [List.getElem?_drop]
  generalize frmX k A B i x = f at *
  have hi8 : i = 0 ∨ i = 1 ∨ i = 2 ∨ i = 4 ∨ i = 5 ∨ i = 6 ∨ 8 ≤ i := by omega
  clear hp e1 e2 e3 e4
  rcases hi8 with rfl | rfl | rfl | rfl | rfl | rfl | h8
  rotate_right
  · rw [if_neg (by omega)] at p0 p1 p2 p3 p4 p5 p6 p7
    simp at p0 p1 p2 p3 p4 p5 p6 p7
    simp only [p0, p1, p2, p3, p4, p5, p6, p7, Nat.reduceAdd]
    omega
  all_goals
    simp at p0 p1 p2 p3 p4 p5 p6 p7
    simp only [p0, p1, p2, p3, p4, p5, p6, p7, Nat.reduceAdd]
    omega

theorem ver_empty (X : List Int) : verL X [] [] = if decide (0 < widthL X) = true then 3 else 2 := by
  unfold verL verK
  by_cases h : widthL X = 0
  · rw [if_pos h, h]; rfl
  · rw [if_neg h, if_neg (by unfold sizeOfL; simp; omega), if_pos (by rw [decide_eq_true_eq]; omega)]
theorem u8s_zeros (k : Nat) : List.replicate k (Value.int .u8 0) = u8s (List.replicate k 0) := by simp [ints]

set_option maxRecDepth 100000 in
set_option maxHeartbeats 8000000 in
theorem lforms_a (w : World) (n0 a0 b0 t0 x : Int) (n5 k : Nat) (hkz : Hid (54 + (n5 : Int) = (k : Int))) (hn5 : (n5 : Int) < 5) (hk8 : 8 ≤ k) (hk9 : 54 ≤ k) (hk58 : k ≤ 58) (hne : wrap64 ((IntKind.u64.wrap n0).tmod 5) = (n5 : Int)) (A8 B7 : Nat) (hA8 : wrap64 ((IntKind.u64.wrap a0).tmod 8) = (A8 : Int)) (hA9 : (A8 : Int) < 8) (hB7 : wrap64 ((IntKind.u64.wrap b0).tmod 7) = (B7 : Int)) (hB9 : (B7 : Int) < 7) (i : Nat) (hit : wrap64 ((IntKind.u64.wrap t0).tmod (54 + (n5 : Int))) = (i : Int)) (hi3 : i ≠ 3) (hi7 : i ≠ 7) (hik : i < k) (hx : 0 ≤ x ∧ x < 256) :
    Calls Try.prog 6 #[.int .i64 n0, .int .i64 a0, .int .i64 b0, .int .i64 t0, .int .u8 x] w fun e w' => e = .returned (.bool true) ∧ Own w w' [] := by
  have H := Own.refl w
  have hto := Lib.hid ltold_any
  obtain ⟨A, hA0⟩ : ∃ a : Int, a = (A8 : Int) := ⟨_, rfl⟩
  obtain ⟨B, hB0⟩ : ∃ a : Int, a = (B7 : Int) := ⟨_, rfl⟩
  have hA : 0 ≤ A ∧ A < 8 := by omega
  have hB : 0 ≤ B ∧ B < 7 := by omega
  rw [← hA0] at hA8
  rw [← hB0] at hB7
  have hzx : IntKind.u8.wrap A = A := by rw [IntKind.wrap_u8]; omega
  have hzy : IntKind.u8.wrap B = B := by rw [IntKind.wrap_u8]; omega
  have hi3b : ((i : Int) == 3) = false := by rw [beq_eq_false_iff_ne]; omega
  have hi7b : ((i : Int) == 7) = false := by rw [beq_eq_false_iff_ne]; omega
  have hj3 : i ≠ 3 := by omega
  have hj7 : i ≠ 7 := by omega
  have hjk : i < k := by omega
  have hFl : Hid ((frmB k A B).length = k) := by show _ = _; unfold frmB; simp
  have hXl : Hid ((frmX k A B i x).length = k) := length_frmX k A B i x
  have hXb := isBytes_frmX hk8 hA hB hjk hj3 hj7 hx
  have hwd := frm_width hk8 hA hB hjk hj3 hj7 hx
  have hF0 : Hid (((List.replicate k 0).set 3 A).set 7 B = frmB k A B) := rfl
  have hFX : Hid ((frmB k A B).set i (bits .xor .u8 ((frmB k A B)[i]?.getD 0) x) = frmX k A B i x) := rfl
  have hat : ∀ i, i < k → (u8s (frmB k A B))[i]? = some (.int .u8 ((frmB k A B)[i]?.getD 0)) := fun i hi => ints_get (by rw [hFl.out]; exact hi)
  have c3 : Hid ((u8s (frmB k A B))[3]? = some (.int .u8 A)) := by show _ = _; rw [hat 3 (by omega), frmB_at hk8]; rfl
  have c7 : Hid ((u8s (frmB k A B))[7]? = some (.int .u8 B)) := by show _ = _; rw [hat 7 (by omega), frmB_at hk8]; rfl
  have cj := Lib.hid (hat i hjk)
  have hfo0 : Hid (∀ w' v, Old w' v (frmX k A B i x) → Calls Try.prog 25 #[v] w' fun e w'' => e = .returned (.bool (decide (0 < widthL (frmX k A B i x)))) ∧ Own w' w'' []) := fun w' v h => form_any w' v _ h hXb (by rw [hXl.out]; omega)
  have hve0 : Hid (∀ w' v, Old w' v (frmX k A B i x) → Calls Try.prog 26 #[v, .slice none 0 0, .slice none 0 0] w' fun e w'' => e = .returned (.int .i64 (if decide (0 < widthL (frmX k A B i x)) = true then 3 else 2)) ∧ Own w' w'' []) := fun w' v h => by
    rw [← ver_empty]
    exact ver_any w' v _ _ _ [] [] h hXb (by rw [hXl.out]; omega) (old_nil w') isBytes_nil' (by simp) (old_nil w') isBytes_nil' (by simp)
  obtain ⟨z1, hz1⟩ : ∃ z, (54 + (n5 : Int) == 56) = z := ⟨_, rfl⟩
  obtain ⟨z2, hz2⟩ : ∃ z, (A == 5) = z := ⟨_, rfl⟩
  obtain ⟨z3, hz3⟩ : ∃ z, decide (1 ≤ B) = z := ⟨_, rfl⟩
  obtain ⟨z4, hz4⟩ : ∃ z, decide (B ≤ 4) = z := ⟨_, rfl⟩
  obtain ⟨z5, hz5⟩ : ∃ z, decide (8 ≤ (i : Int)) = z := ⟨_, rfl⟩
  obtain ⟨z6, hz6⟩ : ∃ z, (x == 0) = z := ⟨_, rfl⟩
  have hbw : decide (0 < widthL (frmX k A B i x)) = (z1 && z2 && z3 && z4 && (z5 || z6)) := by
    rw [← hz1, ← hz2, ← hz3, ← hz4, ← hz5, ← hz6, Bool.eq_iff_iff]
    simp only [decide_eq_true_eq, Bool.and_eq_true, Bool.or_eq_true, beq_iff_eq]
    rw [hwd]
    have := hkz.out
    constructor
    · rintro ⟨a1, a2, a3, a4, a5⟩
      exact ⟨⟨⟨⟨by omega, a2⟩, a3⟩, a4⟩, by omega⟩
    · rintro ⟨⟨⟨⟨a1, a2⟩, a3⟩, a4⟩, a5⟩
      exact ⟨by omega, a2, a3, a4, by omega⟩
  rw [hbw] at hfo0 hve0
  obtain ⟨FX, hFX0⟩ : ∃ f, f = frmX k A B i x := ⟨_, rfl⟩
  obtain ⟨F0, hF00⟩ : ∃ f, f = frmB k A B := ⟨_, rfl⟩
  rw [← hFX0] at hFX hXl hfo0 hve0
  rw [← hF00] at hFX hF0 hFl c3 c7 cj
  obtain ⟨Z, hZ⟩ : ∃ z, z = F0[i]?.getD 0 := ⟨_, rfl⟩
  rw [← hZ] at hFX cj
  have hcs : (z1 = false) ∨ (z1 = true ∧ z2 = false) ∨ (z1 = true ∧ z2 = true ∧ z3 = false) ∨ (z1 = true ∧ z2 = true ∧ z3 = true ∧ z4 = false) ∨ (z1 = true ∧ z2 = true ∧ z3 = true ∧ z4 = true ∧ z5 = true) ∨ (z1 = true ∧ z2 = true ∧ z3 = true ∧ z4 = true ∧ z5 = false ∧ z6 = true) ∨ (z1 = true ∧ z2 = true ∧ z3 = true ∧ z4 = true ∧ z5 = false ∧ z6 = false) := by
    cases z1 <;> cases z2 <;> cases z3 <;> cases z4 <;> cases z5 <;> cases z6 <;> simp
  clear hwd hbw hat hFX0 hF00 hZ hXb
  obtain ⟨hA1, hA2⟩ := hA
  obtain ⟨hB1, hB2⟩ := hB
  obtain ⟨hx1, hx2⟩ := hx
  clear hA0 hB0 hA9 hB9
  go_enter Try.func6, Try.ntmps6
  rcases hcs with rfl | ⟨rfl, rfl⟩ | ⟨rfl, rfl, rfl⟩ | ⟨rfl, rfl, rfl, rfl⟩ | ⟨rfl, rfl, rfl, rfl, rfl⟩ | ⟨rfl, rfl, rfl, rfl, rfl, rfl⟩ | ⟨rfl, rfl, rfl, rfl, rfl, rfl⟩
  all_goals
    have hfo : Hid (∀ w' v, Old w' v FX → Calls Try.prog 25 #[v] w' fun e w'' => e = .returned (.bool _) ∧ Own w' w'' []) := hfo0
    have hve : Hid (∀ w' v, Old w' v FX → Calls Try.prog 26 #[v, .slice none 0 0, .slice none 0 0] w' fun e w'' => e = .returned (.int .i64 _) ∧ Own w' w'' []) := hve0
    simp only [Bool.and_true, Bool.and_false, Bool.false_and, Bool.or_true, Bool.or_false, Bool.true_or, if_true, if_false, Bool.false_eq_true] at hfo hve
    clear hfo0 hve0
    have tok1 : True := trivial
    go_wp2_with (first
      | (clear tok1; refine st_new (f := fun b => .slice (some ⟨b, 0, none⟩) k k) rfl (rn_make H rfl rfl make_u8 rfl rfl hkz.out hkz.out (by omega) (by omega)) ?_; clear H; intro bp w1 hbp H; rw [u8s_zeros] at H; have tok2 : True := trivial)
      | (clear tok2; refine st_skip rfl (rn_storeI (i := 3) H rfl rfl rfl size_u8 .head (by rw [List.length_replicate]; omega)) ?_; clear H; intro w2 H; have tok3 : True := trivial)
      | (clear tok3; refine st_skip rfl (rn_storeI (i := 7) H rfl rfl rfl size_u8 .head (by rw [List.length_set, List.length_replicate]; omega)) ?_; clear H; intro w3 H; rw [hF0.out] at H; have H3 := H; have tok4 : True := trivial)
      | (refine st_valG rfl (rn_cell rfl rfl rfl rfl ((H3.cell (.head _) 3).trans c3.out)) ?_)
      | (refine st_valG rfl (rn_cell rfl rfl rfl rfl ((H3.cell (.head _) 7).trans c7.out)) ?_)
      | (clear tok4; refine st_val rfl (rn_cell rfl rfl rfl rfl ((H.cell (.head _) i).trans cj.out)) ?_; clear H3; have tok5 : True := trivial)
      | (clear tok5; refine st_skip rfl (rn_storeI (i := i) H rfl rfl rfl size_u8 .head (by rw [hFl.out]; exact hjk)) ?_; clear H; intro w4 H; rw [hFX.out] at H; have O4 := Lib.hid (show Old w4 (.slice (some ⟨bp, 0, none⟩) k k) FX from ⟨H.litM (.head _) hXl.out.symm, fun j hj => by obtain ⟨e, _⟩ := blk_some hj; subst e; exact H.lt (.head _)⟩); have HW := Lib.hid H; clear H; have H := Own.refl w4; have tok6 : True := trivial)
      | (clear tok6; go_at_call 24; refine (hto.out _).mono ?_; rintro e w5 ⟨rfl, h3⟩; have H2 := H.call0 h3; clear H h3; have H := H2; clear H2; have tok7 : True := trivial)
      | (clear tok7; go_at_call 25; refine (hfo.out _ _ (O4.out.mv H (by simp))).mono ?_; rintro e w6 ⟨rfl, h3⟩; have H2 := H.call0 h3; clear H h3; have H := H2; clear H2; have tok8 : True := trivial)
      | (clear tok8; go_at_call 26; refine (hve.out _ _ (O4.out.mv H (by simp))).mono ?_; rintro e w7 ⟨rfl, h3⟩; have H2 := H.call0 h3; clear H h3; have H := H2; clear H2; have tok9 : True := trivial))
    have HE := Lib.hid ((HW.out.end0 (by simpa using hbp)).trans H)
    clear H
    go_ret
    exact ⟨rfl, HE.out⟩
set_option maxRecDepth 100000 in
set_option maxHeartbeats 8000000 in
theorem lforms_b (w : World) (n0 a0 b0 t0 x : Int) (n5 k : Nat) (hkz : Hid (54 + (n5 : Int) = (k : Int))) (hn5 : (n5 : Int) < 5) (hk8 : 8 ≤ k) (hk9 : 54 ≤ k) (hk58 : k ≤ 58) (hne : wrap64 ((IntKind.u64.wrap n0).tmod 5) = (n5 : Int)) (A8 B7 : Nat) (hA8 : wrap64 ((IntKind.u64.wrap a0).tmod 8) = (A8 : Int)) (hA9 : (A8 : Int) < 8) (hB7 : wrap64 ((IntKind.u64.wrap b0).tmod 7) = (B7 : Int)) (hB9 : (B7 : Int) < 7) (i : Nat) (hit : wrap64 ((IntKind.u64.wrap t0).tmod (54 + (n5 : Int))) = (i : Int)) (hi37 : i = 3 ∨ i = 7) (hx : 0 ≤ x ∧ x < 256) :
    Calls Try.prog 6 #[.int .i64 n0, .int .i64 a0, .int .i64 b0, .int .i64 t0, .int .u8 x] w fun e w' => e = .returned (.bool true) ∧ Own w w' [] := by
  have H := Own.refl w
  have hto := Lib.hid ltold_any
  obtain ⟨A, hA0⟩ : ∃ a : Int, a = (A8 : Int) := ⟨_, rfl⟩
  obtain ⟨B, hB0⟩ : ∃ a : Int, a = (B7 : Int) := ⟨_, rfl⟩
  have hA : 0 ≤ A ∧ A < 8 := by omega
  have hB : 0 ≤ B ∧ B < 7 := by omega
  rw [← hA0] at hA8
  rw [← hB0] at hB7
  have hzx : IntKind.u8.wrap A = A := by rw [IntKind.wrap_u8]; omega
  have hzy : IntKind.u8.wrap B = B := by rw [IntKind.wrap_u8]; omega
  have hj3 : 30 ≠ 3 := by omega
  have hj7 : 30 ≠ 7 := by omega
  have hjk : 30 < k := by omega
  have hFl : Hid ((frmB k A B).length = k) := by show _ = _; unfold frmB; simp
  have hXl : Hid ((frmX k A B 30 x).length = k) := length_frmX k A B 30 x
  have hXb := isBytes_frmX hk8 hA hB hjk hj3 hj7 hx
  have hwd := frm_width hk8 hA hB hjk hj3 hj7 hx
  have hF0 : Hid (((List.replicate k 0).set 3 A).set 7 B = frmB k A B) := rfl
  have hFX : Hid ((frmB k A B).set 30 (bits .xor .u8 ((frmB k A B)[30]?.getD 0) x) = frmX k A B 30 x) := rfl
  have hat : ∀ i, i < k → (u8s (frmB k A B))[i]? = some (.int .u8 ((frmB k A B)[i]?.getD 0)) := fun i hi => ints_get (by rw [hFl.out]; exact hi)
  have c3 : Hid ((u8s (frmB k A B))[3]? = some (.int .u8 A)) := by show _ = _; rw [hat 3 (by omega), frmB_at hk8]; rfl
  have c7 : Hid ((u8s (frmB k A B))[7]? = some (.int .u8 B)) := by show _ = _; rw [hat 7 (by omega), frmB_at hk8]; rfl
  have cj := Lib.hid (hat 30 hjk)
  have hfo0 : Hid (∀ w' v, Old w' v (frmX k A B 30 x) → Calls Try.prog 25 #[v] w' fun e w'' => e = .returned (.bool (decide (0 < widthL (frmX k A B 30 x)))) ∧ Own w' w'' []) := fun w' v h => form_any w' v _ h hXb (by rw [hXl.out]; omega)
  have hve0 : Hid (∀ w' v, Old w' v (frmX k A B 30 x) → Calls Try.prog 26 #[v, .slice none 0 0, .slice none 0 0] w' fun e w'' => e = .returned (.int .i64 (if decide (0 < widthL (frmX k A B 30 x)) = true then 3 else 2)) ∧ Own w' w'' []) := fun w' v h => by
    rw [← ver_empty]
    exact ver_any w' v _ _ _ [] [] h hXb (by rw [hXl.out]; omega) (old_nil w') isBytes_nil' (by simp) (old_nil w') isBytes_nil' (by simp)
  obtain ⟨z1, hz1⟩ : ∃ z, (54 + (n5 : Int) == 56) = z := ⟨_, rfl⟩
  obtain ⟨z2, hz2⟩ : ∃ z, (A == 5) = z := ⟨_, rfl⟩
  obtain ⟨z3, hz3⟩ : ∃ z, decide (1 ≤ B) = z := ⟨_, rfl⟩
  obtain ⟨z4, hz4⟩ : ∃ z, decide (B ≤ 4) = z := ⟨_, rfl⟩
  obtain ⟨z5, hz5⟩ : ∃ z, decide (8 ≤ (30 : Int)) = z := ⟨_, rfl⟩
  have hz51 : z5 = true := by rw [← hz5]; rfl
  subst hz51
  clear hz5
  obtain ⟨z6, hz6⟩ : ∃ z, (x == 0) = z := ⟨_, rfl⟩
  have hbw : decide (0 < widthL (frmX k A B 30 x)) = (z1 && z2 && z3 && z4 && (true || z6)) := by
    rw [← hz1, ← hz2, ← hz3, ← hz4, ← hz6, Bool.eq_iff_iff]
    simp only [decide_eq_true_eq, Bool.and_eq_true, Bool.or_eq_true, beq_iff_eq]
    rw [hwd]
    have := hkz.out
    constructor
    · rintro ⟨a1, a2, a3, a4, a5⟩
      exact ⟨⟨⟨⟨by omega, a2⟩, a3⟩, a4⟩, Or.inl trivial⟩
    · rintro ⟨⟨⟨⟨a1, a2⟩, a3⟩, a4⟩, a5⟩
      exact ⟨by omega, a2, a3, a4, Or.inl (by omega)⟩
  rw [hbw] at hfo0 hve0
  obtain ⟨FX, hFX0⟩ : ∃ f, f = frmX k A B 30 x := ⟨_, rfl⟩
  obtain ⟨F0, hF00⟩ : ∃ f, f = frmB k A B := ⟨_, rfl⟩
  rw [← hFX0] at hFX hXl hfo0 hve0
  rw [← hF00] at hFX hF0 hFl c3 c7 cj
  obtain ⟨Z, hZ⟩ : ∃ z, z = F0[30]?.getD 0 := ⟨_, rfl⟩
  rw [← hZ] at hFX cj
  have hcs : (z1 = false) ∨ (z1 = true ∧ z2 = false) ∨ (z1 = true ∧ z2 = true ∧ z3 = false) ∨ (z1 = true ∧ z2 = true ∧ z3 = true ∧ z4 = false) ∨ (z1 = true ∧ z2 = true ∧ z3 = true ∧ z4 = true) := by
    cases z1 <;> cases z2 <;> cases z3 <;> cases z4 <;> simp
  clear hwd hbw hat hFX0 hF00 hZ hXb
  obtain ⟨hA1, hA2⟩ := hA
  obtain ⟨hB1, hB2⟩ := hB
  obtain ⟨hx1, hx2⟩ := hx
  clear hA0 hB0 hA9 hB9
  rcases hi37 with rfl | rfl
  · go_enter Try.func6, Try.ntmps6
    rcases hcs with rfl | ⟨rfl, rfl⟩ | ⟨rfl, rfl, rfl⟩ | ⟨rfl, rfl, rfl, rfl⟩ | ⟨rfl, rfl, rfl, rfl⟩
    all_goals
      have hfo : Hid (∀ w' v, Old w' v FX → Calls Try.prog 25 #[v] w' fun e w'' => e = .returned (.bool _) ∧ Own w' w'' []) := hfo0
      have hve : Hid (∀ w' v, Old w' v FX → Calls Try.prog 26 #[v, .slice none 0 0, .slice none 0 0] w' fun e w'' => e = .returned (.int .i64 _) ∧ Own w' w'' []) := hve0
      simp only [Bool.and_true, Bool.and_false, Bool.false_and, Bool.true_or, if_true, if_false, Bool.false_eq_true] at hfo hve
      clear hfo0 hve0
      have tok1 : True := trivial
      go_wp2_with (first
        | (clear tok1; refine st_new (f := fun b => .slice (some ⟨b, 0, none⟩) k k) rfl (rn_make H rfl rfl make_u8 rfl rfl hkz.out hkz.out (by omega) (by omega)) ?_; clear H; intro bp w1 hbp H; rw [u8s_zeros] at H; have tok2 : True := trivial)
        | (clear tok2; refine st_skip rfl (rn_storeI (i := 3) H rfl rfl rfl size_u8 .head (by rw [List.length_replicate]; omega)) ?_; clear H; intro w2 H; have tok3 : True := trivial)
        | (clear tok3; refine st_skip rfl (rn_storeI (i := 7) H rfl rfl rfl size_u8 .head (by rw [List.length_set, List.length_replicate]; omega)) ?_; clear H; intro w3 H; rw [hF0.out] at H; have H3 := H; have tok4 : True := trivial)
        | (refine st_valG rfl (rn_cell rfl rfl rfl rfl ((H3.cell (.head _) 3).trans c3.out)) ?_)
        | (refine st_valG rfl (rn_cell rfl rfl rfl rfl ((H3.cell (.head _) 7).trans c7.out)) ?_)
        | (clear tok4; refine st_val rfl (rn_cell rfl rfl rfl rfl ((H.cell (.head _) 30).trans cj.out)) ?_; clear H3; have tok5 : True := trivial)
        | (clear tok5; refine st_skip rfl (rn_storeI (i := 30) H rfl rfl rfl size_u8 .head (by rw [hFl.out]; exact hjk)) ?_; clear H; intro w4 H; rw [hFX.out] at H; have O4 := Lib.hid (show Old w4 (.slice (some ⟨bp, 0, none⟩) k k) FX from ⟨H.litM (.head _) hXl.out.symm, fun j hj => by obtain ⟨e, _⟩ := blk_some hj; subst e; exact H.lt (.head _)⟩); have HW := Lib.hid H; clear H; have H := Own.refl w4; have tok6 : True := trivial)
        | (clear tok6; go_at_call 24; refine (hto.out _).mono ?_; rintro e w5 ⟨rfl, h3⟩; have H2 := H.call0 h3; clear H h3; have H := H2; clear H2; have tok7 : True := trivial)
        | (clear tok7; go_at_call 25; refine (hfo.out _ _ (O4.out.mv H (by simp))).mono ?_; rintro e w6 ⟨rfl, h3⟩; have H2 := H.call0 h3; clear H h3; have H := H2; clear H2; have tok8 : True := trivial)
        | (clear tok8; go_at_call 26; refine (hve.out _ _ (O4.out.mv H (by simp))).mono ?_; rintro e w7 ⟨rfl, h3⟩; have H2 := H.call0 h3; clear H h3; have H := H2; clear H2; have tok9 : True := trivial))
      have HE := Lib.hid ((HW.out.end0 (by simpa using hbp)).trans H)
      clear H
      go_ret
      exact ⟨rfl, HE.out⟩
  · go_enter Try.func6, Try.ntmps6
    rcases hcs with rfl | ⟨rfl, rfl⟩ | ⟨rfl, rfl, rfl⟩ | ⟨rfl, rfl, rfl, rfl⟩ | ⟨rfl, rfl, rfl, rfl⟩
    all_goals
      have hfo : Hid (∀ w' v, Old w' v FX → Calls Try.prog 25 #[v] w' fun e w'' => e = .returned (.bool _) ∧ Own w' w'' []) := hfo0
      have hve : Hid (∀ w' v, Old w' v FX → Calls Try.prog 26 #[v, .slice none 0 0, .slice none 0 0] w' fun e w'' => e = .returned (.int .i64 _) ∧ Own w' w'' []) := hve0
      simp only [Bool.and_true, Bool.and_false, Bool.false_and, Bool.true_or, if_true, if_false, Bool.false_eq_true] at hfo hve
      clear hfo0 hve0
      have tok1 : True := trivial
      go_wp2_with (first
        | (clear tok1; refine st_new (f := fun b => .slice (some ⟨b, 0, none⟩) k k) rfl (rn_make H rfl rfl make_u8 rfl rfl hkz.out hkz.out (by omega) (by omega)) ?_; clear H; intro bp w1 hbp H; rw [u8s_zeros] at H; have tok2 : True := trivial)
        | (clear tok2; refine st_skip rfl (rn_storeI (i := 3) H rfl rfl rfl size_u8 .head (by rw [List.length_replicate]; omega)) ?_; clear H; intro w2 H; have tok3 : True := trivial)
        | (clear tok3; refine st_skip rfl (rn_storeI (i := 7) H rfl rfl rfl size_u8 .head (by rw [List.length_set, List.length_replicate]; omega)) ?_; clear H; intro w3 H; rw [hF0.out] at H; have H3 := H; have tok4 : True := trivial)
        | (refine st_valG rfl (rn_cell rfl rfl rfl rfl ((H3.cell (.head _) 3).trans c3.out)) ?_)
        | (refine st_valG rfl (rn_cell rfl rfl rfl rfl ((H3.cell (.head _) 7).trans c7.out)) ?_)
        | (clear tok4; refine st_val rfl (rn_cell rfl rfl rfl rfl ((H.cell (.head _) 30).trans cj.out)) ?_; clear H3; have tok5 : True := trivial)
        | (clear tok5; refine st_skip rfl (rn_storeI (i := 30) H rfl rfl rfl size_u8 .head (by rw [hFl.out]; exact hjk)) ?_; clear H; intro w4 H; rw [hFX.out] at H; have O4 := Lib.hid (show Old w4 (.slice (some ⟨bp, 0, none⟩) k k) FX from ⟨H.litM (.head _) hXl.out.symm, fun j hj => by obtain ⟨e, _⟩ := blk_some hj; subst e; exact H.lt (.head _)⟩); have HW := Lib.hid H; clear H; have H := Own.refl w4; have tok6 : True := trivial)
        | (clear tok6; go_at_call 24; refine (hto.out _).mono ?_; rintro e w5 ⟨rfl, h3⟩; have H2 := H.call0 h3; clear H h3; have H := H2; clear H2; have tok7 : True := trivial)
        | (clear tok7; go_at_call 25; refine (hfo.out _ _ (O4.out.mv H (by simp))).mono ?_; rintro e w6 ⟨rfl, h3⟩; have H2 := H.call0 h3; clear H h3; have H := H2; clear H2; have tok8 : True := trivial)
        | (clear tok8; go_at_call 26; refine (hve.out _ _ (O4.out.mv H (by simp))).mono ?_; rintro e w7 ⟨rfl, h3⟩; have H2 := H.call0 h3; clear H h3; have H := H2; clear H2; have tok9 : True := trivial))
      have HE := Lib.hid ((HW.out.end0 (by simpa using hbp)).trans H)
      clear H
      go_ret
      exact ⟨rfl, HE.out⟩

theorem lmsForms_row (w : World) (n0 : Int) (_ : IntKind.i64.min ≤ n0) (_ : n0 ≤ IntKind.i64.max) (a0 : Int) (_ : IntKind.i64.min ≤ a0) (_ : a0 ≤ IntKind.i64.max) (b0 : Int) (_ : IntKind.i64.min ≤ b0) (_ : b0 ≤ IntKind.i64.max) (t0 : Int) (_ : IntKind.i64.min ≤ t0) (_ : t0 ≤ IntKind.i64.max) (x : Int) (hx0 : IntKind.u8.min ≤ x) (hx1 : x ≤ IntKind.u8.max) :
    Calls Try.prog 6 #[.int .i64 n0, .int .i64 a0, .int .i64 b0, .int .i64 t0, .int .u8 x] w fun e w' => e = .returned (.bool true) ∧ Own w w' [] := by
  obtain ⟨n5, hne, hn5⟩ := rem_wrap n0 5 (by omega) (by omega)
  obtain ⟨A8, hA8, hA9⟩ := rem_wrap a0 8 (by omega) (by omega)
  obtain ⟨B7, hB8, hB9⟩ := rem_wrap b0 7 (by omega) (by omega)
  obtain ⟨i, hi, hi9⟩ := rem_wrap t0 (54 + (n5 : Int)) (by omega) (by omega)
  have hx : 0 ≤ x ∧ x < 256 := ⟨hx0, by have : IntKind.u8.max = 255 := rfl; omega⟩
  have hkz : Hid (54 + (n5 : Int) = ((54 + n5 : Nat) : Int)) := by show _ = _; omega
  by_cases h : i = 3 ∨ i = 7
  · exact lforms_b w n0 a0 b0 t0 x n5 (54 + n5) hkz hn5 (by omega) (by omega) (by omega) hne A8 B7 hA8 hA9 hB8 hB9 i hi h hx
  · exact lforms_a w n0 a0 b0 t0 x n5 (54 + n5) hkz hn5 (by omega) (by omega) (by omega) hne A8 B7 hA8 hA9 hB8 hB9 i hi (by omega) (by omega) (by omega) hx

end Go.Proofs.Ytfihlmnbonnekaa
