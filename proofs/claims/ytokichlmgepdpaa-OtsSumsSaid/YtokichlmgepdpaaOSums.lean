/- chirographlaw3.OtsSums: the walk. -/
import Derived.Test.YtokichlmgepdpaaOForms
import Derived.Laws.BitsAllLaws
namespace Go.Proofs.Ytokichlmgepdpaa
open Go.RowKit

/-- the upper bits of a byte -/
def topB (b : Int) (t : Nat) : Int := b / 2 ^ (8 - t) * 2 ^ (8 - t)
def okTop (k : Nat) : Bool := (List.range 256).all fun b => (List.range 8).all fun t => decide (8 < t + k) || decide (bits .or .u8 (topB (b : Int) t) (IntKind.u8.wrap (wrap64 ((b : Int) / 2 ^ (8 - k - t) % 2 ^ k * 2 ^ (8 - k - t)))) = topB (b : Int) (t + k))
theorem okTop_all : (okTop 1 && okTop 2 && okTop 4 && okTop 8) = true := by decide +kernel
theorem topB_or {k : Nat} (hk : k = 1 ∨ k = 2 ∨ k = 4 ∨ k = 8) {b : Int} (h0 : 0 ≤ b ∧ b < 256) {t : Nat} (ht : t + k ≤ 8) : bits .or .u8 (topB b t) (IntKind.u8.wrap (wrap64 (b / 2 ^ (8 - k - t) % 2 ^ k * 2 ^ (8 - k - t)))) = topB b (t + k) := by
  have h := okTop_all
  simp only [Bool.and_eq_true] at h
  obtain ⟨⟨⟨h1, h2⟩, h4⟩, h8⟩ := h
  have hh : okTop k = true := by
    rcases hk with rfl | rfl | rfl | rfl
    · exact h1
    · exact h2
    · exact h4
    · exact h8
  unfold okTop at hh
  rw [List.all_eq_true] at hh
  have h3 := hh b.toNat (List.mem_range.2 (by omega))
  rw [List.all_eq_true] at h3
  have h5 := h3 t (List.mem_range.2 (by omega))
  rw [Bool.or_eq_true, decide_eq_true_eq, decide_eq_true_eq, Int.toNat_of_nonneg h0.1] at h5
  rcases h5 with h5 | h5
  · omega
  · exact h5
theorem topB_8 (b : Int) : topB b 8 = b := by unfold topB; simp
theorem topB_0 {b : Int} (h : 0 ≤ b ∧ b < 256) : topB b 0 = 0 := by unfold topB; simp; omega

/-- the first bits of a digest -/
def backTo (M : List Int) (p : Nat) : List Int := (List.range 32).map fun j => topB (M[j]?.getD 0) (min 8 (p - 8 * j))
theorem length_backTo (M : List Int) (p : Nat) : (backTo M p).length = 32 := by simp [backTo]
theorem backTo_zero {M : List Int} (h : IsBytes M) (hl : M.length = 32) : backTo M 0 = List.replicate 32 0 := by
  refine List.ext_getElem (by simp [backTo]) fun j h1 h2 => ?_
  have hj : j < 32 := by simpa [backTo] using h1
  simp only [backTo, List.getElem_map, List.getElem_range, List.getElem_replicate]
  rw [show min 8 (0 - 8 * j) = 0 by omega]
  exact topB_0 (h j (by omega))
theorem backTo_all {M : List Int} (hl : M.length = 32) : backTo M 256 = M := by
  refine List.ext_getElem (by simp [backTo, hl]) fun j h1 h2 => ?_
  have hj : j < 32 := by simpa [backTo] using h1
  simp only [backTo, List.getElem_map, List.getElem_range]
  rw [show min 8 (256 - 8 * j) = 8 by omega, topB_8]
  simp [h2]
theorem backTo_step {M : List Int} {p k : Nat} (hk : 0 < k) (hp : p % 8 + k ≤ 8) : backTo M (p + k) = (backTo M p).set (p / 8) (topB (M[p / 8]?.getD 0) (p % 8 + k)) := by
  refine List.ext_getElem (by simp [backTo]) fun j h1 h2 => ?_
  rw [List.getElem_set]
  simp only [backTo, List.getElem_map, List.getElem_range]
  split
  · rename_i e
    subst e
    rw [show min 8 (p + k - 8 * (p / 8)) = p % 8 + k by omega]
  · rename_i e
    rw [show min 8 (p + k - 8 * j) = min 8 (p - 8 * j) by omega]
theorem backTo_get {M : List Int} {p : Nat} (h : p < 256) : (u8s (backTo M p))[p / 8]? = some (.int .u8 (topB (M[p / 8]?.getD 0) (p % 8))) := by
  rw [ints_get (by rw [length_backTo]; omega)]
  simp only [backTo, List.getElem?_map, List.getElem?_range (show p / 8 < 32 by omega), Option.map_some, Option.getD_some]
  rw [show min 8 (p - 8 * (p / 8)) = p % 8 by omega]

theorem or_i64 {a b : Int} (k : Nat) (hk : k ≤ 8) (ha : 0 ≤ a ∧ a < 65536) (hb : 0 ≤ b ∧ b < 2 ^ k) : bits .or .i64 (a * 2 ^ k) b = a * 2 ^ k + b := by
  obtain ⟨A, rfl⟩ := Int.eq_ofNat_of_zero_le ha.1
  obtain ⟨B, rfl⟩ := Int.eq_ofNat_of_zero_le hb.1
  have h2 : ((2 : Int) ^ k) = ((2 ^ k : Nat) : Int) := by simp
  rw [h2] at hb ⊢
  have hB : B < 2 ^ k := by omega
  have hp : 2 ^ k ≤ 256 := by have := Nat.pow_le_pow_right (n := 2) (by omega) hk; omega
  have hA : A < 65536 := by omega
  have hAk : A * 2 ^ k ≤ 65536 * 256 := Nat.mul_le_mul (by omega) hp
  rw [← Int.natCast_mul]
  show IntKind.i64.wrap ((BitVec.ofInt 64 ((A * 2 ^ k : Nat) : Int) ||| BitVec.ofInt 64 (B : Int)).toNat : Int) = _
  rw [BitVec.toNat_or, BitVec.ofInt_natCast, BitVec.ofInt_natCast, BitVec.toNat_ofNat, BitVec.toNat_ofNat, Nat.mod_eq_of_lt (show A * 2 ^ k < 2 ^ 64 by omega), Nat.mod_eq_of_lt (show B < 2 ^ 64 by omega), ← Nat.shiftLeft_eq, ← Nat.shiftLeft_add_eq_or_of_lt hB, Nat.shiftLeft_eq, IntKind.wrap_i64]
  omega

/-- the first digits of the checksum -/
def sumTo (c : Int) (k j : Nat) : Int := c / 2 ^ (16 - k * j)
theorem csumOf_range {M : List Int} {k : Nat} (hk : k = 1 ∨ k = 2 ∨ k = 4 ∨ k = 8) : 0 ≤ csumOf M k ∧ csumOf M k < 65536 := by
  have h := lackTo_range M k (256 / k)
  unfold csumOf
  rcases hk with rfl | rfl | rfl | rfl
  all_goals (simp [shN] at h ⊢; omega)

theorem dgs_1 {M : List Int} (hl : M.length = 32) {j : Nat} (hj : j < 9) : dg (withSum M 1) (256 + j) 1 = csumOf M 1 / 2 ^ (16 - 1 * (j + 1)) % 2 ^ 1 := by
  have hc := csumOf_range (M := M) (k := 1) (by omega)
  unfold dg withSum
  generalize csumOf M 1 = c at hc ⊢
  have e0 : (M ++ [c / 256 % 256, c % 256])[32]? = some (c / 256 % 256) := by rw [List.getElem?_append_right (by omega), hl]; rfl
  have e1 : (M ++ [c / 256 % 256, c % 256])[33]? = some (c % 256) := by rw [List.getElem?_append_right (by omega), hl]; rfl
  have hjj : j = 0 ∨ j = 1 ∨ j = 2 ∨ j = 3 ∨ j = 4 ∨ j = 5 ∨ j = 6 ∨ j = 7 ∨ j = 8 := by omega
  rcases hjj with rfl | rfl | rfl | rfl | rfl | rfl | rfl | rfl | rfl
  all_goals (simp only [Nat.reduceAdd, Nat.reduceMul, Nat.reduceDiv, Nat.reduceMod, Nat.reduceSub, e0, e1, Option.getD_some]; omega)
theorem sumTo_1 {M : List Int} (hl : M.length = 32) {j : Nat} (hj : j < 9) : bits .or .i64 (sumTo (csumOf M 1) 1 j * 2 ^ 1) (dg (withSum M 1) (256 + j) 1) = sumTo (csumOf M 1) 1 (j + 1) := by
  have hc := csumOf_range (M := M) (k := 1) (by omega)
  have hd := dgs_1 hl hj
  have hr := dg_range (bs := withSum M 1) (i := 256 + j) (w := 1)
  rw [hd] at hr ⊢
  unfold sumTo
  generalize csumOf M 1 = c at *
  clear hd
  have hjj : j = 0 ∨ j = 1 ∨ j = 2 ∨ j = 3 ∨ j = 4 ∨ j = 5 ∨ j = 6 ∨ j = 7 ∨ j = 8 := by omega
  rcases hjj with rfl | rfl | rfl | rfl | rfl | rfl | rfl | rfl | rfl
  all_goals (rw [or_i64 1 (by omega) (by simp; omega) hr]; simp; omega)

theorem dgs_2 {M : List Int} (hl : M.length = 32) {j : Nat} (hj : j < 5) : dg (withSum M 2) (128 + j) 2 = csumOf M 2 / 2 ^ (16 - 2 * (j + 1)) % 2 ^ 2 := by
  have hc := csumOf_range (M := M) (k := 2) (by omega)
  unfold dg withSum
  generalize csumOf M 2 = c at hc ⊢
  have e0 : (M ++ [c / 256 % 256, c % 256])[32]? = some (c / 256 % 256) := by rw [List.getElem?_append_right (by omega), hl]; rfl
  have e1 : (M ++ [c / 256 % 256, c % 256])[33]? = some (c % 256) := by rw [List.getElem?_append_right (by omega), hl]; rfl
  have hjj : j = 0 ∨ j = 1 ∨ j = 2 ∨ j = 3 ∨ j = 4 := by omega
  rcases hjj with rfl | rfl | rfl | rfl | rfl
  all_goals (simp only [Nat.reduceAdd, Nat.reduceMul, Nat.reduceDiv, Nat.reduceMod, Nat.reduceSub, e0, e1, Option.getD_some]; omega)
theorem sumTo_2 {M : List Int} (hl : M.length = 32) {j : Nat} (hj : j < 5) : bits .or .i64 (sumTo (csumOf M 2) 2 j * 2 ^ 2) (dg (withSum M 2) (128 + j) 2) = sumTo (csumOf M 2) 2 (j + 1) := by
  have hc := csumOf_range (M := M) (k := 2) (by omega)
  have hd := dgs_2 hl hj
  have hr := dg_range (bs := withSum M 2) (i := 128 + j) (w := 2)
  rw [hd] at hr ⊢
  unfold sumTo
  generalize csumOf M 2 = c at *
  clear hd
  have hjj : j = 0 ∨ j = 1 ∨ j = 2 ∨ j = 3 ∨ j = 4 := by omega
  rcases hjj with rfl | rfl | rfl | rfl | rfl
  all_goals (rw [or_i64 2 (by omega) (by simp; omega) hr]; simp; omega)

theorem dgs_4 {M : List Int} (hl : M.length = 32) {j : Nat} (hj : j < 3) : dg (withSum M 4) (64 + j) 4 = csumOf M 4 / 2 ^ (16 - 4 * (j + 1)) % 2 ^ 4 := by
  have hc := csumOf_range (M := M) (k := 4) (by omega)
  unfold dg withSum
  generalize csumOf M 4 = c at hc ⊢
  have e0 : (M ++ [c / 256 % 256, c % 256])[32]? = some (c / 256 % 256) := by rw [List.getElem?_append_right (by omega), hl]; rfl
  have e1 : (M ++ [c / 256 % 256, c % 256])[33]? = some (c % 256) := by rw [List.getElem?_append_right (by omega), hl]; rfl
  have hjj : j = 0 ∨ j = 1 ∨ j = 2 := by omega
  rcases hjj with rfl | rfl | rfl
  all_goals (simp only [Nat.reduceAdd, Nat.reduceMul, Nat.reduceDiv, Nat.reduceMod, Nat.reduceSub, e0, e1, Option.getD_some]; omega)
theorem sumTo_4 {M : List Int} (hl : M.length = 32) {j : Nat} (hj : j < 3) : bits .or .i64 (sumTo (csumOf M 4) 4 j * 2 ^ 4) (dg (withSum M 4) (64 + j) 4) = sumTo (csumOf M 4) 4 (j + 1) := by
  have hc := csumOf_range (M := M) (k := 4) (by omega)
  have hd := dgs_4 hl hj
  have hr := dg_range (bs := withSum M 4) (i := 64 + j) (w := 4)
  rw [hd] at hr ⊢
  unfold sumTo
  generalize csumOf M 4 = c at *
  clear hd
  have hjj : j = 0 ∨ j = 1 ∨ j = 2 := by omega
  rcases hjj with rfl | rfl | rfl
  all_goals (rw [or_i64 4 (by omega) (by simp; omega) hr]; simp; omega)

theorem dgs_8 {M : List Int} (hl : M.length = 32) {j : Nat} (hj : j < 2) : dg (withSum M 8) (32 + j) 8 = csumOf M 8 / 2 ^ (16 - 8 * (j + 1)) % 2 ^ 8 := by
  have hc := csumOf_range (M := M) (k := 8) (by omega)
  unfold dg withSum
  generalize csumOf M 8 = c at hc ⊢
  have e0 : (M ++ [c / 256 % 256, c % 256])[32]? = some (c / 256 % 256) := by rw [List.getElem?_append_right (by omega), hl]; rfl
  have e1 : (M ++ [c / 256 % 256, c % 256])[33]? = some (c % 256) := by rw [List.getElem?_append_right (by omega), hl]; rfl
  have hjj : j = 0 ∨ j = 1 := by omega
  rcases hjj with rfl | rfl
  all_goals (simp only [Nat.reduceAdd, Nat.reduceMul, Nat.reduceDiv, Nat.reduceMod, Nat.reduceSub, e0, e1, Option.getD_some]; omega)
theorem sumTo_8 {M : List Int} (hl : M.length = 32) {j : Nat} (hj : j < 2) : bits .or .i64 (sumTo (csumOf M 8) 8 j * 2 ^ 8) (dg (withSum M 8) (32 + j) 8) = sumTo (csumOf M 8) 8 (j + 1) := by
  have hc := csumOf_range (M := M) (k := 8) (by omega)
  have hd := dgs_8 hl hj
  have hr := dg_range (bs := withSum M 8) (i := 32 + j) (w := 8)
  rw [hd] at hr ⊢
  unfold sumTo
  generalize csumOf M 8 = c at *
  clear hd
  have hjj : j = 0 ∨ j = 1 := by omega
  rcases hjj with rfl | rfl
  all_goals (rw [or_i64 8 (by omega) (by simp; omega) hr]; simp; omega)


set_option maxRecDepth 100000 in
set_option maxHeartbeats 8000000 in
theorem otsSums_1 (w : World) (M : List Int) (hl : M.length = 32) (hb : IsBytes M) (x0 : Int) (hm : wrap64 ((IntKind.u64.wrap x0).tmod 4) = 0) :
    Calls Try.prog 4 #[.agg (u8s M).toArray, .int .i64 x0] w fun e w' => e = .returned (.bool true) ∧ Own w w' [] := by
  have H := Own.refl w
  have hto := Lib.hid otold_any
  have hMl := Lib.hid hl
  have hdig : Hid (∀ w', Calls Try.prog 11 #[.int .i64 1, .agg (u8s M).toArray] w' fun e w'' => ∃ r, e = .returned r ∧ TupI (digits M 1) w'' r ∧ Own w' w'' []) := fun w' => digitsT_any w' 1 (by omega) M hl hb
  have hdl : Hid ((digits M 1).length = 265) := length_digits M 1
  have hch : Hid (∀ w', Calls Try.prog 15 #[.int .i64 1] w' fun e w'' => e = .returned (.int .i64 265) ∧ Own w' w'' []) := fun w' => chains_any w' 1
  obtain ⟨D, hD⟩ : ∃ D : Nat → Int, D = fun i => dg (withSum M 1) i 1 := ⟨_, rfl⟩
  have hDg : Hid (∀ i, i < 265 → (ints .i64 (digits M 1))[i]? = some (.int .i64 (D i))) := fun i hi => by
    rw [ints_get (by rw [hdl.out]; exact hi), hD]
    simp only [digits, List.getElem?_map, List.getElem?_range (show i < chN 1 from hi), Option.map_some, Option.getD_some]
  have hDr : Hid (∀ i, 0 ≤ D i ∧ D i < 2) := fun i => by rw [hD]; exact dg_range
  have hDm : Hid (∀ i, i < 256 → D i = dg M i 1) := fun i hi => by
    rw [hD]
    exact dg_app (by omega)
  have hSo : Hid (∀ j, j < 9 → bits .or .i64 (sumTo (csumOf M 1) 1 j * 2) (D (256 + j)) = sumTo (csumOf M 1) 1 (j + 1)) := fun j hj => by rw [hD]; exact sumTo_1 hl hj
  have hcr := csumOf_range (M := M) (k := 1) (by omega)
  have hSr : Hid (∀ j, j ≤ 9 → 0 ≤ sumTo (csumOf M 1) 1 j ∧ sumTo (csumOf M 1) 1 j < 65536) := fun j hj => by
    unfold sumTo
    generalize csumOf M 1 = c at hcr ⊢
    have hjj : j = 0 ∨ j = 1 ∨ j = 2 ∨ j = 3 ∨ j = 4 ∨ j = 5 ∨ j = 6 ∨ j = 7 ∨ j = 8 ∨ j = 9 := by omega
    rcases hjj with rfl | rfl | rfl | rfl | rfl | rfl | rfl | rfl | rfl | rfl
    all_goals (simp; omega)
  have hS0 : Hid (sumTo (csumOf M 1) 1 0 = 0) := by
    show _ = _
    unfold sumTo
    generalize csumOf M 1 = c at hcr ⊢
    simp
    omega
  obtain ⟨S, hS⟩ : ∃ S, S = sumTo (csumOf M 1) 1 := ⟨_, rfl⟩
  obtain ⟨L, hL⟩ : ∃ L, L = lackTo M 1 := ⟨_, rfl⟩
  have hLs : Hid (∀ i, i < 256 → L (i + 1) = L i + (1 - D i)) := fun i hi => by
    rw [hL, hDm.out i hi]
    show lackTo M 1 i + 2 ^ 1 - 1 - dg M i 1 = _
    omega
  have hLr : Hid (∀ i, i ≤ 256 → 0 ≤ L i ∧ L i ≤ 256) := fun i hi => by
    rw [hL]
    have h := lackTo_range M 1 i
    refine ⟨h.1, ?_⟩
    have h2 : (i : Int) * (2 ^ 1 - 1) = (i : Int) * 1 := rfl
    rw [h2] at h
    omega
  have hL0 : Hid (L 0 = 0) := by rw [hL]; rfl
  have hfin : Hid (S 9 = L 256 * 128 / 128) := by rw [hS, hL]; rfl
  simp only [← hS] at hSo hSr hS0
  obtain ⟨K, hK⟩ : ∃ K : Nat → List Int, K = fun i => backTo M (i * 1) := ⟨_, rfl⟩
  have hK0 : Hid (K 0 = List.replicate 32 0) := by rw [hK]; exact backTo_zero hb hl
  have hKN : Hid (K 256 = M) := by rw [hK]; exact backTo_all hl
  have hKl : Hid (∀ i, (K i).length = 32) := fun i => by rw [hK]; exact length_backTo _ _
  have hKs : Hid (∀ i, i < 256 → ∃ y, 0 ≤ y ∧ y < 256 ∧ (u8s (K i))[i / 8]? = some (.int .u8 y) ∧ i / 8 < 32 ∧ u8s (K (i + 1)) = (u8s (K i)).set (i / 8) (.int .u8 (bits .or .u8 y (IntKind.u8.wrap (wrap64 ((D i) * 2 ^ (7 - i % 8))))))) := fun i hi => by
    have hj : i * 1 / 8 = i / 8 := by omega
    have hb8 := hb (i * 1 / 8) (by omega)
    have g := backTo_get (M := M) (p := i * 1) (by omega)
    have st := backTo_step (M := M) (p := i * 1) (k := 1) (by omega) (by omega)
    have o := topB_or (k := 1) (by omega) hb8 (t := i * 1 % 8) (by omega)
    have hd := hDm.out i hi
    unfold dg at hd
    rw [← hd] at o
    have hsh : 8 - 1 - i * 1 % 8 = 7 - i % 8 := by omega
    rw [hsh] at o
    rw [hj] at hb8 g st o
    rw [hK]
    refine ⟨topB (M[i / 8]?.getD 0) (i * 1 % 8), ?_, ?_, g, by omega, ?_⟩
    · exact Int.mul_nonneg (Int.ediv_nonneg hb8.1 (Int.le_of_lt (Int.pow_pos (by omega)))) (Int.le_of_lt (Int.pow_pos (by omega)))
    · exact Int.lt_of_le_of_lt (Int.ediv_mul_le _ (by have : (0 : Int) < 2 ^ (8 - i * 1 % 8) := Int.pow_pos (by omega); omega)) hb8.2
    · rw [o, ← ints_set]
      show u8s (backTo M ((i + 1) * 1)) = _
      rw [Nat.add_mul, Nat.one_mul, st]
  have eM : ∀ w, (Op.equalIn 10000 23 (.agg (u8s M).toArray) (.agg (u8s M).toArray)).run Try.prog w = .ok true w := fun w => by rw [eqHash w _ _ hl hl]; simp
  clear hl hb hD hcr hS hL hK hDm
  go_enter Try.func4, Try.ntmps4
  have tok1 : True := trivial
  go_wp2_with (first
    | (clear tok1; refine st_new rfl (rn_box (cs := u8s M) H rfl rfl rfl) ?_; clear H; intro b2 w1 hb2 H; have tok2 : True := trivial)
    | (clear tok2; refine st_new rfl (rn_buildSlice (e := 3) (cs := i64s [1, 2, 4, 8]) H rfl (fun w' => by kernel_rfl)) ?_; clear H; intro b16 w2 hb16 H; have tok3 : True := trivial)
    | (clear tok3; refine st_val rfl (rn_load H rfl rfl (.head _) rfl rfl rfl) ?_; have tok4 : True := trivial)
    | (clear tok4; refine st_val rfl (rn_loadAll (cs := u8s M) H rfl rfl (.tail _ (.head _)) rfl rfl (size_hashL hMl.out)) ?_; have tok5 : True := trivial)
    | (clear tok5; go_at_call 11; refine (hdig.out _).mono ?_; rintro e w3 ⟨r, rfl, hT, h3⟩; obtain ⟨pd, cd, rfl, hI⟩ := hT; obtain ⟨gd, od, rfl, _, hdc⟩ := hI.cellAt (by rw [hdl.out]; omega); rw [hdl.out]; have H2 := H.call0 h3; have HW := Lib.hid H2;
        have c2 := Lib.hid (fun (w' : World) (L : List Ent) (h : Own w3 w' L) (hn : ∀ k ∈ L.map (·.1), w3.heap.size ≤ k) => show ∀ j v, (u8s M)[j]? = some v → w'.cell? ⟨b2, 0 + j, none⟩ = some v from fun j v hj => h.old (by rw [HW.out.cell (.tail _ (.head _)), Nat.zero_add]; exact hj) (fun hm => by have := hn _ hm; have := HW.out.lt (.tail _ (.head _)); omega));
        have cD := Lib.hid (fun (w' : World) (L : List Ent) (h : Own w3 w' L) (hn : ∀ k ∈ L.map (·.1), w3.heap.size ≤ k) (i : Nat) (hi : i < 265) => show w'.cell? ⟨gd, od + i, none⟩ = some (.int .i64 (D i)) from h.old (hdc i _ (hDg.out i hi)) (fun hm => by have := hn _ hm; have hg : gd < w3.heap.size := World.block_lt_of_cell? w3 _ (hdc i _ (hDg.out i hi)); omega));
        clear hdc hI H H2 h3; have H := Own.refl w3; have tok6 : True := trivial)
    | (clear tok6; go_at_call 15; refine (hch.out _).mono ?_; rintro e w4 ⟨rfl, h3⟩; have H2 := H.call0 h3; clear H h3; have H := H2; clear H2; have tok7 : True := trivial)
    | (clear tok7; refine st_new rfl (rn_alloc H rfl info_hash) ?_; clear H; intro b10 w5 hb10 H; have tok8 : True := trivial))
  rw [← hK0.out] at H
  go_loopw [9, 11] (fun v9 v11 wr => ∃ i : Nat, i ≤ 256 ∧ v11 = .int .i64 (i : Nat) ∧ v9 = .int .i64 (L i) ∧ Own w3 wr [(b10, u8s (K i), 23)]) (fun _ v11 _ => ((256 : Nat) - intOf v11).toNat)
  case atStart => exact ⟨0, by omega, rfl, by rw [hL0.out], H⟩
  case round =>
    clear H
    obtain ⟨i, hi, rfl, rfl, H⟩ := hrel
    by_cases hin : i < 256
    · obtain ⟨y, hy0, hy1, hyg, hy32, hyn⟩ := hKs.out i hin
      have hyg' := Lib.hid hyg
      have hyn' := Lib.hid hyn
      have hd01 := hDr.out i
      have hl01 := hLr.out i hi
      have hls := Lib.hid (hLs.out i hin)
      have hcd := Lib.hid (cD.out wr _ H (by simp; omega) i (by omega))
      obtain ⟨d, hd⟩ : ∃ d, d = D i := ⟨_, rfl⟩
      obtain ⟨l, hll⟩ : ∃ d, d = L i := ⟨_, rfl⟩
      rw [← hd] at hd01 hls hcd hyn'
      rw [← hll] at hl01 hls ⊢
      clear hyg hyn hd hll
      have hdn : decide (d < 0) = false := decide_eq_false (by omega)
      have hdp : decide (2 ≤ d) = false := decide_eq_false (by omega)
      go_wp2_with (first
        | (refine st_val rfl (rn_cell rfl rfl rfl rfl hcd.out) ?_)
        | (refine st_valG rfl (rn_cell rfl rfl rfl rfl hcd.out) ?_))
      have HH := Lib.hid H
      have hw : ∀ m, Own w3 (wr.drewN m) [(b10, u8s (K i), 23)] := fun m => H.drewN m
      have hcd2 : Hid (∀ m, (wr.drewN m).cell? ⟨gd, od + i, none⟩ = some (.int .i64 d)) := fun m => hcd.out
      refine region_drew 26 (by kernel_rfl) (by kernel_rfl) (by kernel_rfl) ?_
      simp only [List.take_succ_cons, List.take_zero, List.drop_succ_cons, List.drop_zero]
      repeat (first
        | (refine qd_val rfl (fun m => rn_load (hw m) rfl rfl (.head _) rfl rfl hyg'.out) ?_; go_frame)
        | (refine qd_val rfl (fun m => rn_cell rfl rfl rfl rfl (hcd2.out m)) ?_; go_frame)
        | go_big_quiet_step (fail))
      refine wpQuiet_nil ?_
      rintro w' hw'
      have H := (show Own w3 w' _ by obtain ⟨m, rfl⟩ := hw'; exact hw m)
      clear hw' hw hcd2
      go_wp2_with (refine st_skip rfl (rn_store (i := i / 8) (v := .int .u8 (bits .or .u8 y (IntKind.u8.wrap (wrap64 (d * 2 ^ (7 - i % 8)))))) H rfl rfl rfl (by kernel_rfl) .head (by rw [length_ints, hKl.out]; omega) rfl) ?_; clear H; intro w7 H; rw [← hyn'.out] at H)
      exact ⟨⟨i + 1, by omega, by go_num, by rw [hls.out], H⟩, by simp [intOf]; omega⟩
    · obtain rfl : i = 256 := by omega
      rw [hKN.out] at H
      rw [show (((256 : Nat) : Int)) = 256 from rfl]
      have hl01 := hLr.out 256 hi
      go_wp2_with fail
      go_loopw [12, 13] (fun v12 v13 wr => ∃ j : Nat, j ≤ 9 ∧ v13 = .int .i64 ((256 + j : Nat) : Int) ∧ v12 = .int .i64 (S j) ∧ Own w3 wr [(b10, u8s M, 23)]) (fun _ v13 _ => ((265 : Nat) - intOf v13).toNat)
      case atStart => exact ⟨0, by omega, rfl, by rw [hS0.out], H⟩
      case round =>
        clear H
        obtain ⟨j, hj, rfl, rfl, H⟩ := hrel
        by_cases hjn : j < 9
        · have hs01 := hSr.out j hj
          have hso := Lib.hid (hSo.out j hjn)
          have hce := Lib.hid (cD.out _ _ H (by simp; omega) (256 + j) (by omega))
          obtain ⟨e, he⟩ : ∃ d, d = D (256 + j) := ⟨_, rfl⟩
          obtain ⟨s, hs⟩ : ∃ d, d = S j := ⟨_, rfl⟩
          rw [← he] at hso hce
          rw [← hs] at hs01 hso ⊢
          clear he hs
          go_wp2_with (first
            | (refine st_val rfl (rn_cell rfl rfl rfl rfl hce.out) ?_))
          exact ⟨⟨j + 1, by omega, by go_num, by rw [← hso.out], H⟩, by simp [intOf]; omega⟩
        · obtain rfl : j = 9 := by omega
          rw [hfin.out]
          obtain ⟨l, hll⟩ : ∃ d, d = L 256 := ⟨_, rfl⟩
          rw [← hll] at hl01 ⊢
          clear hll
          have tok1 : True := trivial
          go_wp2_with (first
            | (clear tok1; refine st_new rfl (rn_buildSlice (e := 3) (cs := i64s [7, 6, 4, 0]) H rfl (fun w' => by kernel_rfl)) ?_; clear H; intro b120 w8 hb120 H; have tok2 : True := trivial)
            | (clear tok2; refine st_val rfl (rn_load H rfl rfl (.head _) rfl rfl rfl) ?_; have tok3 : True := trivial)
            | (clear tok3; go_at_call 14; refine (hto.out _).mono ?_; rintro e w9 ⟨rfl, h3⟩; have H2 := H.call0 h3; clear H h3; have H := H2; clear H2; have tok4 : True := trivial)
            | (clear tok4; refine st_valG rfl (rn_loadAll (cs := u8s M) H rfl rfl (.tail _ (.head _)) rfl rfl (size_hashL hMl.out)) ?_; have tok5 : True := trivial)
            | (clear tok5; refine st_valG rfl (rn_cells rfl rfl rfl rfl (size_hashL hMl.out) (c2.out _ _ H (by simp; omega))) ?_; have tok6 : True := trivial))
          have h1 := Lib.hid (H.end0 (by simp; omega))
          have hw := Lib.hid (HW.out.end0 (by simp; omega))
          go_ret
          exact ⟨rfl, hw.out.trans h1.out⟩

set_option maxRecDepth 100000 in
set_option maxHeartbeats 8000000 in
theorem otsSums_2 (w : World) (M : List Int) (hl : M.length = 32) (hb : IsBytes M) (x0 : Int) (hm : wrap64 ((IntKind.u64.wrap x0).tmod 4) = 1) :
    Calls Try.prog 4 #[.agg (u8s M).toArray, .int .i64 x0] w fun e w' => e = .returned (.bool true) ∧ Own w w' [] := by
  have H := Own.refl w
  have hto := Lib.hid otold_any
  have hMl := Lib.hid hl
  have hdig : Hid (∀ w', Calls Try.prog 11 #[.int .i64 2, .agg (u8s M).toArray] w' fun e w'' => ∃ r, e = .returned r ∧ TupI (digits M 2) w'' r ∧ Own w' w'' []) := fun w' => digitsT_any w' 2 (by omega) M hl hb
  have hdl : Hid ((digits M 2).length = 133) := length_digits M 2
  have hch : Hid (∀ w', Calls Try.prog 15 #[.int .i64 2] w' fun e w'' => e = .returned (.int .i64 133) ∧ Own w' w'' []) := fun w' => chains_any w' 2
  obtain ⟨D, hD⟩ : ∃ D : Nat → Int, D = fun i => dg (withSum M 2) i 2 := ⟨_, rfl⟩
  have hDg : Hid (∀ i, i < 133 → (ints .i64 (digits M 2))[i]? = some (.int .i64 (D i))) := fun i hi => by
    rw [ints_get (by rw [hdl.out]; exact hi), hD]
    simp only [digits, List.getElem?_map, List.getElem?_range (show i < chN 2 from hi), Option.map_some, Option.getD_some]
  have hDr : Hid (∀ i, 0 ≤ D i ∧ D i < 4) := fun i => by rw [hD]; exact dg_range
  have hDm : Hid (∀ i, i < 128 → D i = dg M i 2) := fun i hi => by
    rw [hD]
    exact dg_app (by omega)
  have hSo : Hid (∀ j, j < 5 → bits .or .i64 (sumTo (csumOf M 2) 2 j * 4) (D (128 + j)) = sumTo (csumOf M 2) 2 (j + 1)) := fun j hj => by rw [hD]; exact sumTo_2 hl hj
  have hcr := csumOf_range (M := M) (k := 2) (by omega)
  have hSr : Hid (∀ j, j ≤ 5 → 0 ≤ sumTo (csumOf M 2) 2 j ∧ sumTo (csumOf M 2) 2 j < 65536) := fun j hj => by
    unfold sumTo
    generalize csumOf M 2 = c at hcr ⊢
    have hjj : j = 0 ∨ j = 1 ∨ j = 2 ∨ j = 3 ∨ j = 4 ∨ j = 5 := by omega
    rcases hjj with rfl | rfl | rfl | rfl | rfl | rfl
    all_goals (simp; omega)
  have hS0 : Hid (sumTo (csumOf M 2) 2 0 = 0) := by
    show _ = _
    unfold sumTo
    generalize csumOf M 2 = c at hcr ⊢
    simp
    omega
  obtain ⟨S, hS⟩ : ∃ S, S = sumTo (csumOf M 2) 2 := ⟨_, rfl⟩
  obtain ⟨L, hL⟩ : ∃ L, L = lackTo M 2 := ⟨_, rfl⟩
  have hLs : Hid (∀ i, i < 128 → L (i + 1) = L i + (3 - D i)) := fun i hi => by
    rw [hL, hDm.out i hi]
    show lackTo M 2 i + 2 ^ 2 - 1 - dg M i 2 = _
    omega
  have hLr : Hid (∀ i, i ≤ 128 → 0 ≤ L i ∧ L i ≤ 384) := fun i hi => by
    rw [hL]
    have h := lackTo_range M 2 i
    refine ⟨h.1, ?_⟩
    have h2 : (i : Int) * (2 ^ 2 - 1) = (i : Int) * 3 := rfl
    rw [h2] at h
    omega
  have hL0 : Hid (L 0 = 0) := by rw [hL]; rfl
  have hfin : Hid (S 5 = L 128 * 64 / 64) := by rw [hS, hL]; rfl
  simp only [← hS] at hSo hSr hS0
  obtain ⟨K, hK⟩ : ∃ K : Nat → List Int, K = fun i => backTo M (i * 2) := ⟨_, rfl⟩
  have hK0 : Hid (K 0 = List.replicate 32 0) := by rw [hK]; exact backTo_zero hb hl
  have hKN : Hid (K 128 = M) := by rw [hK]; exact backTo_all hl
  have hKl : Hid (∀ i, (K i).length = 32) := fun i => by rw [hK]; exact length_backTo _ _
  have hKs : Hid (∀ i, i < 128 → ∃ y, 0 ≤ y ∧ y < 256 ∧ (u8s (K i))[i * 2 / 8]? = some (.int .u8 y) ∧ i * 2 / 8 < 32 ∧ u8s (K (i + 1)) = (u8s (K i)).set (i * 2 / 8) (.int .u8 (bits .or .u8 y (IntKind.u8.wrap (wrap64 ((D i) * 2 ^ (6 - i * 2 % 8))))))) := fun i hi => by
    have hj : i * 2 / 8 = i * 2 / 8 := by omega
    have hb8 := hb (i * 2 / 8) (by omega)
    have g := backTo_get (M := M) (p := i * 2) (by omega)
    have st := backTo_step (M := M) (p := i * 2) (k := 2) (by omega) (by omega)
    have o := topB_or (k := 2) (by omega) hb8 (t := i * 2 % 8) (by omega)
    have hd := hDm.out i hi
    unfold dg at hd
    rw [← hd] at o
    have hsh : 8 - 2 - i * 2 % 8 = 6 - i * 2 % 8 := by omega
    rw [hsh] at o
    rw [hj] at hb8 g st o
    rw [hK]
    refine ⟨topB (M[i * 2 / 8]?.getD 0) (i * 2 % 8), ?_, ?_, g, by omega, ?_⟩
    · exact Int.mul_nonneg (Int.ediv_nonneg hb8.1 (Int.le_of_lt (Int.pow_pos (by omega)))) (Int.le_of_lt (Int.pow_pos (by omega)))
    · exact Int.lt_of_le_of_lt (Int.ediv_mul_le _ (by have : (0 : Int) < 2 ^ (8 - i * 2 % 8) := Int.pow_pos (by omega); omega)) hb8.2
    · rw [o, ← ints_set]
      show u8s (backTo M ((i + 1) * 2)) = _
      rw [Nat.add_mul, Nat.one_mul, st]
  have eM : ∀ w, (Op.equalIn 10000 23 (.agg (u8s M).toArray) (.agg (u8s M).toArray)).run Try.prog w = .ok true w := fun w => by rw [eqHash w _ _ hl hl]; simp
  clear hl hb hD hcr hS hL hK hDm
  go_enter Try.func4, Try.ntmps4
  have tok1 : True := trivial
  go_wp2_with (first
    | (clear tok1; refine st_new rfl (rn_box (cs := u8s M) H rfl rfl rfl) ?_; clear H; intro b2 w1 hb2 H; have tok2 : True := trivial)
    | (clear tok2; refine st_new rfl (rn_buildSlice (e := 3) (cs := i64s [1, 2, 4, 8]) H rfl (fun w' => by kernel_rfl)) ?_; clear H; intro b16 w2 hb16 H; have tok3 : True := trivial)
    | (clear tok3; refine st_val rfl (rn_load H rfl rfl (.head _) rfl rfl rfl) ?_; have tok4 : True := trivial)
    | (clear tok4; refine st_val rfl (rn_loadAll (cs := u8s M) H rfl rfl (.tail _ (.head _)) rfl rfl (size_hashL hMl.out)) ?_; have tok5 : True := trivial)
    | (clear tok5; go_at_call 11; refine (hdig.out _).mono ?_; rintro e w3 ⟨r, rfl, hT, h3⟩; obtain ⟨pd, cd, rfl, hI⟩ := hT; obtain ⟨gd, od, rfl, _, hdc⟩ := hI.cellAt (by rw [hdl.out]; omega); rw [hdl.out]; have H2 := H.call0 h3; have HW := Lib.hid H2;
        have c2 := Lib.hid (fun (w' : World) (L : List Ent) (h : Own w3 w' L) (hn : ∀ k ∈ L.map (·.1), w3.heap.size ≤ k) => show ∀ j v, (u8s M)[j]? = some v → w'.cell? ⟨b2, 0 + j, none⟩ = some v from fun j v hj => h.old (by rw [HW.out.cell (.tail _ (.head _)), Nat.zero_add]; exact hj) (fun hm => by have := hn _ hm; have := HW.out.lt (.tail _ (.head _)); omega));
        have cD := Lib.hid (fun (w' : World) (L : List Ent) (h : Own w3 w' L) (hn : ∀ k ∈ L.map (·.1), w3.heap.size ≤ k) (i : Nat) (hi : i < 133) => show w'.cell? ⟨gd, od + i, none⟩ = some (.int .i64 (D i)) from h.old (hdc i _ (hDg.out i hi)) (fun hm => by have := hn _ hm; have hg : gd < w3.heap.size := World.block_lt_of_cell? w3 _ (hdc i _ (hDg.out i hi)); omega));
        clear hdc hI H H2 h3; have H := Own.refl w3; have tok6 : True := trivial)
    | (clear tok6; go_at_call 15; refine (hch.out _).mono ?_; rintro e w4 ⟨rfl, h3⟩; have H2 := H.call0 h3; clear H h3; have H := H2; clear H2; have tok7 : True := trivial)
    | (clear tok7; refine st_new rfl (rn_alloc H rfl info_hash) ?_; clear H; intro b10 w5 hb10 H; have tok8 : True := trivial))
  rw [← hK0.out] at H
  go_loopw [9, 11] (fun v9 v11 wr => ∃ i : Nat, i ≤ 128 ∧ v11 = .int .i64 (i : Nat) ∧ v9 = .int .i64 (L i) ∧ Own w3 wr [(b10, u8s (K i), 23)]) (fun _ v11 _ => ((128 : Nat) - intOf v11).toNat)
  case atStart => exact ⟨0, by omega, rfl, by rw [hL0.out], H⟩
  case round =>
    clear H
    obtain ⟨i, hi, rfl, rfl, H⟩ := hrel
    by_cases hin : i < 128
    · obtain ⟨y, hy0, hy1, hyg, hy32, hyn⟩ := hKs.out i hin
      have hyg' := Lib.hid hyg
      have hyn' := Lib.hid hyn
      have hd01 := hDr.out i
      have hl01 := hLr.out i hi
      have hls := Lib.hid (hLs.out i hin)
      have hcd := Lib.hid (cD.out wr _ H (by simp; omega) i (by omega))
      obtain ⟨d, hd⟩ : ∃ d, d = D i := ⟨_, rfl⟩
      obtain ⟨l, hll⟩ : ∃ d, d = L i := ⟨_, rfl⟩
      rw [← hd] at hd01 hls hcd hyn'
      rw [← hll] at hl01 hls ⊢
      clear hyg hyn hd hll
      have hdn : decide (d < 0) = false := decide_eq_false (by omega)
      have hdp : decide (4 ≤ d) = false := decide_eq_false (by omega)
      go_wp2_with (first
        | (refine st_val rfl (rn_cell rfl rfl rfl rfl hcd.out) ?_)
        | (refine st_valG rfl (rn_cell rfl rfl rfl rfl hcd.out) ?_))
      have HH := Lib.hid H
      have hw : ∀ m, Own w3 (wr.drewN m) [(b10, u8s (K i), 23)] := fun m => H.drewN m
      have hcd2 : Hid (∀ m, (wr.drewN m).cell? ⟨gd, od + i, none⟩ = some (.int .i64 d)) := fun m => hcd.out
      refine region_drew 26 (by kernel_rfl) (by kernel_rfl) (by kernel_rfl) ?_
      simp only [List.take_succ_cons, List.take_zero, List.drop_succ_cons, List.drop_zero]
      repeat (first
        | (refine qd_val rfl (fun m => rn_load (hw m) rfl rfl (.head _) rfl rfl hyg'.out) ?_; go_frame)
        | (refine qd_val rfl (fun m => rn_cell rfl rfl rfl rfl (hcd2.out m)) ?_; go_frame)
        | go_big_quiet_step (fail))
      refine wpQuiet_nil ?_
      rintro w' hw'
      have H := (show Own w3 w' _ by obtain ⟨m, rfl⟩ := hw'; exact hw m)
      clear hw' hw hcd2
      go_wp2_with (refine st_skip rfl (rn_store (i := i * 2 / 8) (v := .int .u8 (bits .or .u8 y (IntKind.u8.wrap (wrap64 (d * 2 ^ (6 - i * 2 % 8)))))) H rfl rfl rfl (by kernel_rfl) .head (by rw [length_ints, hKl.out]; omega) rfl) ?_; clear H; intro w7 H; rw [← hyn'.out] at H)
      exact ⟨⟨i + 1, by omega, by go_num, by rw [hls.out], H⟩, by simp [intOf]; omega⟩
    · obtain rfl : i = 128 := by omega
      rw [hKN.out] at H
      rw [show (((128 : Nat) : Int)) = 128 from rfl]
      have hl01 := hLr.out 128 hi
      go_wp2_with fail
      go_loopw [12, 13] (fun v12 v13 wr => ∃ j : Nat, j ≤ 5 ∧ v13 = .int .i64 ((128 + j : Nat) : Int) ∧ v12 = .int .i64 (S j) ∧ Own w3 wr [(b10, u8s M, 23)]) (fun _ v13 _ => ((133 : Nat) - intOf v13).toNat)
      case atStart => exact ⟨0, by omega, rfl, by rw [hS0.out], H⟩
      case round =>
        clear H
        obtain ⟨j, hj, rfl, rfl, H⟩ := hrel
        by_cases hjn : j < 5
        · have hs01 := hSr.out j hj
          have hso := Lib.hid (hSo.out j hjn)
          have hce := Lib.hid (cD.out _ _ H (by simp; omega) (128 + j) (by omega))
          obtain ⟨e, he⟩ : ∃ d, d = D (128 + j) := ⟨_, rfl⟩
          obtain ⟨s, hs⟩ : ∃ d, d = S j := ⟨_, rfl⟩
          rw [← he] at hso hce
          rw [← hs] at hs01 hso ⊢
          clear he hs
          go_wp2_with (first
            | (refine st_val rfl (rn_cell rfl rfl rfl rfl hce.out) ?_))
          exact ⟨⟨j + 1, by omega, by go_num, by rw [← hso.out], H⟩, by simp [intOf]; omega⟩
        · obtain rfl : j = 5 := by omega
          rw [hfin.out]
          obtain ⟨l, hll⟩ : ∃ d, d = L 128 := ⟨_, rfl⟩
          rw [← hll] at hl01 ⊢
          clear hll
          have tok1 : True := trivial
          go_wp2_with (first
            | (clear tok1; refine st_new rfl (rn_buildSlice (e := 3) (cs := i64s [7, 6, 4, 0]) H rfl (fun w' => by kernel_rfl)) ?_; clear H; intro b120 w8 hb120 H; have tok2 : True := trivial)
            | (clear tok2; refine st_val rfl (rn_load H rfl rfl (.head _) rfl rfl rfl) ?_; have tok3 : True := trivial)
            | (clear tok3; go_at_call 14; refine (hto.out _).mono ?_; rintro e w9 ⟨rfl, h3⟩; have H2 := H.call0 h3; clear H h3; have H := H2; clear H2; have tok4 : True := trivial)
            | (clear tok4; refine st_valG rfl (rn_loadAll (cs := u8s M) H rfl rfl (.tail _ (.head _)) rfl rfl (size_hashL hMl.out)) ?_; have tok5 : True := trivial)
            | (clear tok5; refine st_valG rfl (rn_cells rfl rfl rfl rfl (size_hashL hMl.out) (c2.out _ _ H (by simp; omega))) ?_; have tok6 : True := trivial))
          have h1 := Lib.hid (H.end0 (by simp; omega))
          have hw := Lib.hid (HW.out.end0 (by simp; omega))
          go_ret
          exact ⟨rfl, hw.out.trans h1.out⟩

set_option maxRecDepth 100000 in
set_option maxHeartbeats 8000000 in
theorem otsSums_4 (w : World) (M : List Int) (hl : M.length = 32) (hb : IsBytes M) (x0 : Int) (hm : wrap64 ((IntKind.u64.wrap x0).tmod 4) = 2) :
    Calls Try.prog 4 #[.agg (u8s M).toArray, .int .i64 x0] w fun e w' => e = .returned (.bool true) ∧ Own w w' [] := by
  have H := Own.refl w
  have hto := Lib.hid otold_any
  have hMl := Lib.hid hl
  have hdig : Hid (∀ w', Calls Try.prog 11 #[.int .i64 4, .agg (u8s M).toArray] w' fun e w'' => ∃ r, e = .returned r ∧ TupI (digits M 4) w'' r ∧ Own w' w'' []) := fun w' => digitsT_any w' 4 (by omega) M hl hb
  have hdl : Hid ((digits M 4).length = 67) := length_digits M 4
  have hch : Hid (∀ w', Calls Try.prog 15 #[.int .i64 4] w' fun e w'' => e = .returned (.int .i64 67) ∧ Own w' w'' []) := fun w' => chains_any w' 4
  obtain ⟨D, hD⟩ : ∃ D : Nat → Int, D = fun i => dg (withSum M 4) i 4 := ⟨_, rfl⟩
  have hDg : Hid (∀ i, i < 67 → (ints .i64 (digits M 4))[i]? = some (.int .i64 (D i))) := fun i hi => by
    rw [ints_get (by rw [hdl.out]; exact hi), hD]
    simp only [digits, List.getElem?_map, List.getElem?_range (show i < chN 4 from hi), Option.map_some, Option.getD_some]
  have hDr : Hid (∀ i, 0 ≤ D i ∧ D i < 16) := fun i => by rw [hD]; exact dg_range
  have hDm : Hid (∀ i, i < 64 → D i = dg M i 4) := fun i hi => by
    rw [hD]
    exact dg_app (by omega)
  have hSo : Hid (∀ j, j < 3 → bits .or .i64 (sumTo (csumOf M 4) 4 j * 16) (D (64 + j)) = sumTo (csumOf M 4) 4 (j + 1)) := fun j hj => by rw [hD]; exact sumTo_4 hl hj
  have hcr := csumOf_range (M := M) (k := 4) (by omega)
  have hSr : Hid (∀ j, j ≤ 3 → 0 ≤ sumTo (csumOf M 4) 4 j ∧ sumTo (csumOf M 4) 4 j < 65536) := fun j hj => by
    unfold sumTo
    generalize csumOf M 4 = c at hcr ⊢
    have hjj : j = 0 ∨ j = 1 ∨ j = 2 ∨ j = 3 := by omega
    rcases hjj with rfl | rfl | rfl | rfl
    all_goals (simp; omega)
  have hS0 : Hid (sumTo (csumOf M 4) 4 0 = 0) := by
    show _ = _
    unfold sumTo
    generalize csumOf M 4 = c at hcr ⊢
    simp
    omega
  obtain ⟨S, hS⟩ : ∃ S, S = sumTo (csumOf M 4) 4 := ⟨_, rfl⟩
  obtain ⟨L, hL⟩ : ∃ L, L = lackTo M 4 := ⟨_, rfl⟩
  have hLs : Hid (∀ i, i < 64 → L (i + 1) = L i + (15 - D i)) := fun i hi => by
    rw [hL, hDm.out i hi]
    show lackTo M 4 i + 2 ^ 4 - 1 - dg M i 4 = _
    omega
  have hLr : Hid (∀ i, i ≤ 64 → 0 ≤ L i ∧ L i ≤ 960) := fun i hi => by
    rw [hL]
    have h := lackTo_range M 4 i
    refine ⟨h.1, ?_⟩
    have h2 : (i : Int) * (2 ^ 4 - 1) = (i : Int) * 15 := rfl
    rw [h2] at h
    omega
  have hL0 : Hid (L 0 = 0) := by rw [hL]; rfl
  have hfin : Hid (S 3 = L 64 * 16 / 16) := by rw [hS, hL]; rfl
  simp only [← hS] at hSo hSr hS0
  obtain ⟨K, hK⟩ : ∃ K : Nat → List Int, K = fun i => backTo M (i * 4) := ⟨_, rfl⟩
  have hK0 : Hid (K 0 = List.replicate 32 0) := by rw [hK]; exact backTo_zero hb hl
  have hKN : Hid (K 64 = M) := by rw [hK]; exact backTo_all hl
  have hKl : Hid (∀ i, (K i).length = 32) := fun i => by rw [hK]; exact length_backTo _ _
  have hKs : Hid (∀ i, i < 64 → ∃ y, 0 ≤ y ∧ y < 256 ∧ (u8s (K i))[i * 4 / 8]? = some (.int .u8 y) ∧ i * 4 / 8 < 32 ∧ u8s (K (i + 1)) = (u8s (K i)).set (i * 4 / 8) (.int .u8 (bits .or .u8 y (IntKind.u8.wrap (wrap64 ((D i) * 2 ^ (4 - i * 4 % 8))))))) := fun i hi => by
    have hj : i * 4 / 8 = i * 4 / 8 := by omega
    have hb8 := hb (i * 4 / 8) (by omega)
    have g := backTo_get (M := M) (p := i * 4) (by omega)
    have st := backTo_step (M := M) (p := i * 4) (k := 4) (by omega) (by omega)
    have o := topB_or (k := 4) (by omega) hb8 (t := i * 4 % 8) (by omega)
    have hd := hDm.out i hi
    unfold dg at hd
    rw [← hd] at o
    have hsh : 8 - 4 - i * 4 % 8 = 4 - i * 4 % 8 := by omega
    rw [hsh] at o
    rw [hj] at hb8 g st o
    rw [hK]
    refine ⟨topB (M[i * 4 / 8]?.getD 0) (i * 4 % 8), ?_, ?_, g, by omega, ?_⟩
    · exact Int.mul_nonneg (Int.ediv_nonneg hb8.1 (Int.le_of_lt (Int.pow_pos (by omega)))) (Int.le_of_lt (Int.pow_pos (by omega)))
    · exact Int.lt_of_le_of_lt (Int.ediv_mul_le _ (by have : (0 : Int) < 2 ^ (8 - i * 4 % 8) := Int.pow_pos (by omega); omega)) hb8.2
    · rw [o, ← ints_set]
      show u8s (backTo M ((i + 1) * 4)) = _
      rw [Nat.add_mul, Nat.one_mul, st]
  have eM : ∀ w, (Op.equalIn 10000 23 (.agg (u8s M).toArray) (.agg (u8s M).toArray)).run Try.prog w = .ok true w := fun w => by rw [eqHash w _ _ hl hl]; simp
  clear hl hb hD hcr hS hL hK hDm
  go_enter Try.func4, Try.ntmps4
  have tok1 : True := trivial
  go_wp2_with (first
    | (clear tok1; refine st_new rfl (rn_box (cs := u8s M) H rfl rfl rfl) ?_; clear H; intro b2 w1 hb2 H; have tok2 : True := trivial)
    | (clear tok2; refine st_new rfl (rn_buildSlice (e := 3) (cs := i64s [1, 2, 4, 8]) H rfl (fun w' => by kernel_rfl)) ?_; clear H; intro b16 w2 hb16 H; have tok3 : True := trivial)
    | (clear tok3; refine st_val rfl (rn_load H rfl rfl (.head _) rfl rfl rfl) ?_; have tok4 : True := trivial)
    | (clear tok4; refine st_val rfl (rn_loadAll (cs := u8s M) H rfl rfl (.tail _ (.head _)) rfl rfl (size_hashL hMl.out)) ?_; have tok5 : True := trivial)
    | (clear tok5; go_at_call 11; refine (hdig.out _).mono ?_; rintro e w3 ⟨r, rfl, hT, h3⟩; obtain ⟨pd, cd, rfl, hI⟩ := hT; obtain ⟨gd, od, rfl, _, hdc⟩ := hI.cellAt (by rw [hdl.out]; omega); rw [hdl.out]; have H2 := H.call0 h3; have HW := Lib.hid H2;
        have c2 := Lib.hid (fun (w' : World) (L : List Ent) (h : Own w3 w' L) (hn : ∀ k ∈ L.map (·.1), w3.heap.size ≤ k) => show ∀ j v, (u8s M)[j]? = some v → w'.cell? ⟨b2, 0 + j, none⟩ = some v from fun j v hj => h.old (by rw [HW.out.cell (.tail _ (.head _)), Nat.zero_add]; exact hj) (fun hm => by have := hn _ hm; have := HW.out.lt (.tail _ (.head _)); omega));
        have cD := Lib.hid (fun (w' : World) (L : List Ent) (h : Own w3 w' L) (hn : ∀ k ∈ L.map (·.1), w3.heap.size ≤ k) (i : Nat) (hi : i < 67) => show w'.cell? ⟨gd, od + i, none⟩ = some (.int .i64 (D i)) from h.old (hdc i _ (hDg.out i hi)) (fun hm => by have := hn _ hm; have hg : gd < w3.heap.size := World.block_lt_of_cell? w3 _ (hdc i _ (hDg.out i hi)); omega));
        clear hdc hI H H2 h3; have H := Own.refl w3; have tok6 : True := trivial)
    | (clear tok6; go_at_call 15; refine (hch.out _).mono ?_; rintro e w4 ⟨rfl, h3⟩; have H2 := H.call0 h3; clear H h3; have H := H2; clear H2; have tok7 : True := trivial)
    | (clear tok7; refine st_new rfl (rn_alloc H rfl info_hash) ?_; clear H; intro b10 w5 hb10 H; have tok8 : True := trivial))
  rw [← hK0.out] at H
  go_loopw [9, 11] (fun v9 v11 wr => ∃ i : Nat, i ≤ 64 ∧ v11 = .int .i64 (i : Nat) ∧ v9 = .int .i64 (L i) ∧ Own w3 wr [(b10, u8s (K i), 23)]) (fun _ v11 _ => ((64 : Nat) - intOf v11).toNat)
  case atStart => exact ⟨0, by omega, rfl, by rw [hL0.out], H⟩
  case round =>
    clear H
    obtain ⟨i, hi, rfl, rfl, H⟩ := hrel
    by_cases hin : i < 64
    · obtain ⟨y, hy0, hy1, hyg, hy32, hyn⟩ := hKs.out i hin
      have hyg' := Lib.hid hyg
      have hyn' := Lib.hid hyn
      have hd01 := hDr.out i
      have hl01 := hLr.out i hi
      have hls := Lib.hid (hLs.out i hin)
      have hcd := Lib.hid (cD.out wr _ H (by simp; omega) i (by omega))
      obtain ⟨d, hd⟩ : ∃ d, d = D i := ⟨_, rfl⟩
      obtain ⟨l, hll⟩ : ∃ d, d = L i := ⟨_, rfl⟩
      rw [← hd] at hd01 hls hcd hyn'
      rw [← hll] at hl01 hls ⊢
      clear hyg hyn hd hll
      have hdn : decide (d < 0) = false := decide_eq_false (by omega)
      have hdp : decide (16 ≤ d) = false := decide_eq_false (by omega)
      go_wp2_with (first
        | (refine st_val rfl (rn_cell rfl rfl rfl rfl hcd.out) ?_)
        | (refine st_valG rfl (rn_cell rfl rfl rfl rfl hcd.out) ?_))
      have HH := Lib.hid H
      have hw : ∀ m, Own w3 (wr.drewN m) [(b10, u8s (K i), 23)] := fun m => H.drewN m
      have hcd2 : Hid (∀ m, (wr.drewN m).cell? ⟨gd, od + i, none⟩ = some (.int .i64 d)) := fun m => hcd.out
      refine region_drew 26 (by kernel_rfl) (by kernel_rfl) (by kernel_rfl) ?_
      simp only [List.take_succ_cons, List.take_zero, List.drop_succ_cons, List.drop_zero]
      repeat (first
        | (refine qd_val rfl (fun m => rn_load (hw m) rfl rfl (.head _) rfl rfl hyg'.out) ?_; go_frame)
        | (refine qd_val rfl (fun m => rn_cell rfl rfl rfl rfl (hcd2.out m)) ?_; go_frame)
        | go_big_quiet_step (fail))
      refine wpQuiet_nil ?_
      rintro w' hw'
      have H := (show Own w3 w' _ by obtain ⟨m, rfl⟩ := hw'; exact hw m)
      clear hw' hw hcd2
      go_wp2_with (refine st_skip rfl (rn_store (i := i * 4 / 8) (v := .int .u8 (bits .or .u8 y (IntKind.u8.wrap (wrap64 (d * 2 ^ (4 - i * 4 % 8)))))) H rfl rfl rfl (by kernel_rfl) .head (by rw [length_ints, hKl.out]; omega) rfl) ?_; clear H; intro w7 H; rw [← hyn'.out] at H)
      exact ⟨⟨i + 1, by omega, by go_num, by rw [hls.out], H⟩, by simp [intOf]; omega⟩
    · obtain rfl : i = 64 := by omega
      rw [hKN.out] at H
      rw [show (((64 : Nat) : Int)) = 64 from rfl]
      have hl01 := hLr.out 64 hi
      go_wp2_with fail
      go_loopw [12, 13] (fun v12 v13 wr => ∃ j : Nat, j ≤ 3 ∧ v13 = .int .i64 ((64 + j : Nat) : Int) ∧ v12 = .int .i64 (S j) ∧ Own w3 wr [(b10, u8s M, 23)]) (fun _ v13 _ => ((67 : Nat) - intOf v13).toNat)
      case atStart => exact ⟨0, by omega, rfl, by rw [hS0.out], H⟩
      case round =>
        clear H
        obtain ⟨j, hj, rfl, rfl, H⟩ := hrel
        by_cases hjn : j < 3
        · have hs01 := hSr.out j hj
          have hso := Lib.hid (hSo.out j hjn)
          have hce := Lib.hid (cD.out _ _ H (by simp; omega) (64 + j) (by omega))
          obtain ⟨e, he⟩ : ∃ d, d = D (64 + j) := ⟨_, rfl⟩
          obtain ⟨s, hs⟩ : ∃ d, d = S j := ⟨_, rfl⟩
          rw [← he] at hso hce
          rw [← hs] at hs01 hso ⊢
          clear he hs
          go_wp2_with (first
            | (refine st_val rfl (rn_cell rfl rfl rfl rfl hce.out) ?_))
          exact ⟨⟨j + 1, by omega, by go_num, by rw [← hso.out], H⟩, by simp [intOf]; omega⟩
        · obtain rfl : j = 3 := by omega
          rw [hfin.out]
          obtain ⟨l, hll⟩ : ∃ d, d = L 64 := ⟨_, rfl⟩
          rw [← hll] at hl01 ⊢
          clear hll
          have tok1 : True := trivial
          go_wp2_with (first
            | (clear tok1; refine st_new rfl (rn_buildSlice (e := 3) (cs := i64s [7, 6, 4, 0]) H rfl (fun w' => by kernel_rfl)) ?_; clear H; intro b120 w8 hb120 H; have tok2 : True := trivial)
            | (clear tok2; refine st_val rfl (rn_load H rfl rfl (.head _) rfl rfl rfl) ?_; have tok3 : True := trivial)
            | (clear tok3; go_at_call 14; refine (hto.out _).mono ?_; rintro e w9 ⟨rfl, h3⟩; have H2 := H.call0 h3; clear H h3; have H := H2; clear H2; have tok4 : True := trivial)
            | (clear tok4; refine st_valG rfl (rn_loadAll (cs := u8s M) H rfl rfl (.tail _ (.head _)) rfl rfl (size_hashL hMl.out)) ?_; have tok5 : True := trivial)
            | (clear tok5; refine st_valG rfl (rn_cells rfl rfl rfl rfl (size_hashL hMl.out) (c2.out _ _ H (by simp; omega))) ?_; have tok6 : True := trivial))
          have h1 := Lib.hid (H.end0 (by simp; omega))
          have hw := Lib.hid (HW.out.end0 (by simp; omega))
          go_ret
          exact ⟨rfl, hw.out.trans h1.out⟩

set_option maxRecDepth 100000 in
set_option maxHeartbeats 8000000 in
theorem otsSums_8 (w : World) (M : List Int) (hl : M.length = 32) (hb : IsBytes M) (x0 : Int) (hm : wrap64 ((IntKind.u64.wrap x0).tmod 4) = 3) :
    Calls Try.prog 4 #[.agg (u8s M).toArray, .int .i64 x0] w fun e w' => e = .returned (.bool true) ∧ Own w w' [] := by
  have H := Own.refl w
  have hto := Lib.hid otold_any
  have hMl := Lib.hid hl
  have hdig : Hid (∀ w', Calls Try.prog 11 #[.int .i64 8, .agg (u8s M).toArray] w' fun e w'' => ∃ r, e = .returned r ∧ TupI (digits M 8) w'' r ∧ Own w' w'' []) := fun w' => digitsT_any w' 8 (by omega) M hl hb
  have hdl : Hid ((digits M 8).length = 34) := length_digits M 8
  have hch : Hid (∀ w', Calls Try.prog 15 #[.int .i64 8] w' fun e w'' => e = .returned (.int .i64 34) ∧ Own w' w'' []) := fun w' => chains_any w' 8
  obtain ⟨D, hD⟩ : ∃ D : Nat → Int, D = fun i => dg (withSum M 8) i 8 := ⟨_, rfl⟩
  have hDg : Hid (∀ i, i < 34 → (ints .i64 (digits M 8))[i]? = some (.int .i64 (D i))) := fun i hi => by
    rw [ints_get (by rw [hdl.out]; exact hi), hD]
    simp only [digits, List.getElem?_map, List.getElem?_range (show i < chN 8 from hi), Option.map_some, Option.getD_some]
  have hDr : Hid (∀ i, 0 ≤ D i ∧ D i < 256) := fun i => by rw [hD]; exact dg_range
  have hDm : Hid (∀ i, i < 32 → D i = dg M i 8) := fun i hi => by
    rw [hD]
    exact dg_app (by omega)
  have hSo : Hid (∀ j, j < 2 → bits .or .i64 (sumTo (csumOf M 8) 8 j * 256) (D (32 + j)) = sumTo (csumOf M 8) 8 (j + 1)) := fun j hj => by rw [hD]; exact sumTo_8 hl hj
  have hcr := csumOf_range (M := M) (k := 8) (by omega)
  have hSr : Hid (∀ j, j ≤ 2 → 0 ≤ sumTo (csumOf M 8) 8 j ∧ sumTo (csumOf M 8) 8 j < 65536) := fun j hj => by
    unfold sumTo
    generalize csumOf M 8 = c at hcr ⊢
    have hjj : j = 0 ∨ j = 1 ∨ j = 2 := by omega
    rcases hjj with rfl | rfl | rfl
    all_goals (simp; omega)
  have hS0 : Hid (sumTo (csumOf M 8) 8 0 = 0) := by
    show _ = _
    unfold sumTo
    generalize csumOf M 8 = c at hcr ⊢
    simp
    omega
  obtain ⟨S, hS⟩ : ∃ S, S = sumTo (csumOf M 8) 8 := ⟨_, rfl⟩
  obtain ⟨L, hL⟩ : ∃ L, L = lackTo M 8 := ⟨_, rfl⟩
  have hLs : Hid (∀ i, i < 32 → L (i + 1) = L i + (255 - D i)) := fun i hi => by
    rw [hL, hDm.out i hi]
    show lackTo M 8 i + 2 ^ 8 - 1 - dg M i 8 = _
    omega
  have hLr : Hid (∀ i, i ≤ 32 → 0 ≤ L i ∧ L i ≤ 8160) := fun i hi => by
    rw [hL]
    have h := lackTo_range M 8 i
    refine ⟨h.1, ?_⟩
    have h2 : (i : Int) * (2 ^ 8 - 1) = (i : Int) * 255 := rfl
    rw [h2] at h
    omega
  have hL0 : Hid (L 0 = 0) := by rw [hL]; rfl
  have hfin : Hid (S 2 = L 32 * 1 / 1) := by rw [hS, hL]; rfl
  simp only [← hS] at hSo hSr hS0
  obtain ⟨K, hK⟩ : ∃ K : Nat → List Int, K = fun i => backTo M (i * 8) := ⟨_, rfl⟩
  have hK0 : Hid (K 0 = List.replicate 32 0) := by rw [hK]; exact backTo_zero hb hl
  have hKN : Hid (K 32 = M) := by rw [hK]; exact backTo_all hl
  have hKl : Hid (∀ i, (K i).length = 32) := fun i => by rw [hK]; exact length_backTo _ _
  have hKs : Hid (∀ i, i < 32 → ∃ y, 0 ≤ y ∧ y < 256 ∧ (u8s (K i))[i]? = some (.int .u8 y) ∧ i < 32 ∧ u8s (K (i + 1)) = (u8s (K i)).set (i) (.int .u8 (bits .or .u8 y (D i)))) := fun i hi => by
    have hj : i * 8 / 8 = i := by omega
    have hb8 := hb (i * 8 / 8) (by omega)
    have g := backTo_get (M := M) (p := i * 8) (by omega)
    have st := backTo_step (M := M) (p := i * 8) (k := 8) (by omega) (by omega)
    have o := topB_or (k := 8) (by omega) hb8 (t := i * 8 % 8) (by omega)
    have hd := hDm.out i hi
    unfold dg at hd
    rw [← hd] at o
    have hsh : 8 - 8 - i * 8 % 8 = 0 := by omega
    rw [hsh] at o
    rw [show IntKind.u8.wrap (wrap64 (D i * 2 ^ 0)) = D i by
      have hr := hDr.out i
      rw [Int.pow_zero, Int.mul_one, wrap64_id hr.1 hr.2]
      show D i % 256 = D i
      omega] at o
    rw [hj] at hb8 g st o
    rw [hK]
    refine ⟨topB (M[i]?.getD 0) (i * 8 % 8), ?_, ?_, g, by omega, ?_⟩
    · exact Int.mul_nonneg (Int.ediv_nonneg hb8.1 (Int.le_of_lt (Int.pow_pos (by omega)))) (Int.le_of_lt (Int.pow_pos (by omega)))
    · exact Int.lt_of_le_of_lt (Int.ediv_mul_le _ (by have : (0 : Int) < 2 ^ (8 - i * 8 % 8) := Int.pow_pos (by omega); omega)) hb8.2
    · rw [o, ← ints_set]
      show u8s (backTo M ((i + 1) * 8)) = _
      rw [Nat.add_mul, Nat.one_mul, st]
  have eM : ∀ w, (Op.equalIn 10000 23 (.agg (u8s M).toArray) (.agg (u8s M).toArray)).run Try.prog w = .ok true w := fun w => by rw [eqHash w _ _ hl hl]; simp
  clear hl hb hD hcr hS hL hK hDm
  go_enter Try.func4, Try.ntmps4
  have tok1 : True := trivial
  go_wp2_with (first
    | (clear tok1; refine st_new rfl (rn_box (cs := u8s M) H rfl rfl rfl) ?_; clear H; intro b2 w1 hb2 H; have tok2 : True := trivial)
    | (clear tok2; refine st_new rfl (rn_buildSlice (e := 3) (cs := i64s [1, 2, 4, 8]) H rfl (fun w' => by kernel_rfl)) ?_; clear H; intro b16 w2 hb16 H; have tok3 : True := trivial)
    | (clear tok3; refine st_val rfl (rn_load H rfl rfl (.head _) rfl rfl rfl) ?_; have tok4 : True := trivial)
    | (clear tok4; refine st_val rfl (rn_loadAll (cs := u8s M) H rfl rfl (.tail _ (.head _)) rfl rfl (size_hashL hMl.out)) ?_; have tok5 : True := trivial)
    | (clear tok5; go_at_call 11; refine (hdig.out _).mono ?_; rintro e w3 ⟨r, rfl, hT, h3⟩; obtain ⟨pd, cd, rfl, hI⟩ := hT; obtain ⟨gd, od, rfl, _, hdc⟩ := hI.cellAt (by rw [hdl.out]; omega); rw [hdl.out]; have H2 := H.call0 h3; have HW := Lib.hid H2;
        have c2 := Lib.hid (fun (w' : World) (L : List Ent) (h : Own w3 w' L) (hn : ∀ k ∈ L.map (·.1), w3.heap.size ≤ k) => show ∀ j v, (u8s M)[j]? = some v → w'.cell? ⟨b2, 0 + j, none⟩ = some v from fun j v hj => h.old (by rw [HW.out.cell (.tail _ (.head _)), Nat.zero_add]; exact hj) (fun hm => by have := hn _ hm; have := HW.out.lt (.tail _ (.head _)); omega));
        have cD := Lib.hid (fun (w' : World) (L : List Ent) (h : Own w3 w' L) (hn : ∀ k ∈ L.map (·.1), w3.heap.size ≤ k) (i : Nat) (hi : i < 34) => show w'.cell? ⟨gd, od + i, none⟩ = some (.int .i64 (D i)) from h.old (hdc i _ (hDg.out i hi)) (fun hm => by have := hn _ hm; have hg : gd < w3.heap.size := World.block_lt_of_cell? w3 _ (hdc i _ (hDg.out i hi)); omega));
        clear hdc hI H H2 h3; have H := Own.refl w3; have tok6 : True := trivial)
    | (clear tok6; go_at_call 15; refine (hch.out _).mono ?_; rintro e w4 ⟨rfl, h3⟩; have H2 := H.call0 h3; clear H h3; have H := H2; clear H2; have tok7 : True := trivial)
    | (clear tok7; refine st_new rfl (rn_alloc H rfl info_hash) ?_; clear H; intro b10 w5 hb10 H; have tok8 : True := trivial))
  rw [← hK0.out] at H
  go_loopw [9, 11] (fun v9 v11 wr => ∃ i : Nat, i ≤ 32 ∧ v11 = .int .i64 (i : Nat) ∧ v9 = .int .i64 (L i) ∧ Own w3 wr [(b10, u8s (K i), 23)]) (fun _ v11 _ => ((32 : Nat) - intOf v11).toNat)
  case atStart => exact ⟨0, by omega, rfl, by rw [hL0.out], H⟩
  case round =>
    clear H
    obtain ⟨i, hi, rfl, rfl, H⟩ := hrel
    by_cases hin : i < 32
    · obtain ⟨y, hy0, hy1, hyg, hy32, hyn⟩ := hKs.out i hin
      have hyg' := Lib.hid hyg
      have hyn' := Lib.hid hyn
      have hd01 := hDr.out i
      have hl01 := hLr.out i hi
      have hls := Lib.hid (hLs.out i hin)
      have hcd := Lib.hid (cD.out wr _ H (by simp; omega) i (by omega))
      obtain ⟨d, hd⟩ : ∃ d, d = D i := ⟨_, rfl⟩
      obtain ⟨l, hll⟩ : ∃ d, d = L i := ⟨_, rfl⟩
      rw [← hd] at hd01 hls hcd hyn'
      rw [← hll] at hl01 hls ⊢
      clear hyg hyn hd hll
      have hdn : decide (d < 0) = false := decide_eq_false (by omega)
      have hdp : decide (256 ≤ d) = false := decide_eq_false (by omega)
      go_wp2_with (first
        | (refine st_val rfl (rn_cell rfl rfl rfl rfl hcd.out) ?_)
        | (refine st_valG rfl (rn_cell rfl rfl rfl rfl hcd.out) ?_))
      have HH := Lib.hid H
      have hw : ∀ m, Own w3 (wr.drewN m) [(b10, u8s (K i), 23)] := fun m => H.drewN m
      have hcd2 : Hid (∀ m, (wr.drewN m).cell? ⟨gd, od + i, none⟩ = some (.int .i64 d)) := fun m => hcd.out
      refine region_drew 26 (by kernel_rfl) (by kernel_rfl) (by kernel_rfl) ?_
      simp only [List.take_succ_cons, List.take_zero, List.drop_succ_cons, List.drop_zero]
      repeat (first
        | (refine qd_val rfl (fun m => rn_load (hw m) rfl rfl (.head _) rfl rfl hyg'.out) ?_; go_frame)
        | (refine qd_val rfl (fun m => rn_cell rfl rfl rfl rfl (hcd2.out m)) ?_; go_frame)
        | go_big_quiet_step (fail))
      refine wpQuiet_nil ?_
      rintro w' hw'
      have H := (show Own w3 w' _ by obtain ⟨m, rfl⟩ := hw'; exact hw m)
      clear hw' hw hcd2
      go_wp2_with (refine st_skip rfl (rn_store (i := i) (v := .int .u8 (bits .or .u8 y d)) H rfl rfl rfl (by kernel_rfl) .head (by rw [length_ints, hKl.out]; omega) rfl) ?_; clear H; intro w7 H; rw [← hyn'.out] at H)
      exact ⟨⟨i + 1, by omega, by go_num, by rw [hls.out], H⟩, by simp [intOf]; omega⟩
    · obtain rfl : i = 32 := by omega
      rw [hKN.out] at H
      rw [show (((32 : Nat) : Int)) = 32 from rfl]
      have hl01 := hLr.out 32 hi
      go_wp2_with fail
      go_loopw [12, 13] (fun v12 v13 wr => ∃ j : Nat, j ≤ 2 ∧ v13 = .int .i64 ((32 + j : Nat) : Int) ∧ v12 = .int .i64 (S j) ∧ Own w3 wr [(b10, u8s M, 23)]) (fun _ v13 _ => ((34 : Nat) - intOf v13).toNat)
      case atStart => exact ⟨0, by omega, rfl, by rw [hS0.out], H⟩
      case round =>
        clear H
        obtain ⟨j, hj, rfl, rfl, H⟩ := hrel
        by_cases hjn : j < 2
        · have hs01 := hSr.out j hj
          have hso := Lib.hid (hSo.out j hjn)
          have hce := Lib.hid (cD.out _ _ H (by simp; omega) (32 + j) (by omega))
          obtain ⟨e, he⟩ : ∃ d, d = D (32 + j) := ⟨_, rfl⟩
          obtain ⟨s, hs⟩ : ∃ d, d = S j := ⟨_, rfl⟩
          rw [← he] at hso hce
          rw [← hs] at hs01 hso ⊢
          clear he hs
          go_wp2_with (first
            | (refine st_val rfl (rn_cell rfl rfl rfl rfl hce.out) ?_))
          exact ⟨⟨j + 1, by omega, by go_num, by rw [← hso.out], H⟩, by simp [intOf]; omega⟩
        · obtain rfl : j = 2 := by omega
          rw [hfin.out]
          obtain ⟨l, hll⟩ : ∃ d, d = L 32 := ⟨_, rfl⟩
          rw [← hll] at hl01 ⊢
          clear hll
          have tok1 : True := trivial
          go_wp2_with (first
            | (clear tok1; refine st_new rfl (rn_buildSlice (e := 3) (cs := i64s [7, 6, 4, 0]) H rfl (fun w' => by kernel_rfl)) ?_; clear H; intro b120 w8 hb120 H; have tok2 : True := trivial)
            | (clear tok2; refine st_val rfl (rn_load H rfl rfl (.head _) rfl rfl rfl) ?_; have tok3 : True := trivial)
            | (clear tok3; go_at_call 14; refine (hto.out _).mono ?_; rintro e w9 ⟨rfl, h3⟩; have H2 := H.call0 h3; clear H h3; have H := H2; clear H2; have tok4 : True := trivial)
            | (clear tok4; refine st_valG rfl (rn_loadAll (cs := u8s M) H rfl rfl (.tail _ (.head _)) rfl rfl (size_hashL hMl.out)) ?_; have tok5 : True := trivial)
            | (clear tok5; refine st_valG rfl (rn_cells rfl rfl rfl rfl (size_hashL hMl.out) (c2.out _ _ H (by simp; omega))) ?_; have tok6 : True := trivial))
          have h1 := Lib.hid (H.end0 (by simp; omega))
          have hw := Lib.hid (HW.out.end0 (by simp; omega))
          go_ret
          exact ⟨rfl, hw.out.trans h1.out⟩

theorem otsSums_row (w : World) (M : List Int) (hl : M.length = 32) (hb : ∀ i, i < M.length → 0 ≤ M[i]?.getD 0 ∧ M[i]?.getD 0 < 256) (x0 : Int) (_ : IntKind.i64.min ≤ x0) (_ : x0 ≤ IntKind.i64.max) :
    Calls Try.prog 4 #[.agg (u8s M).toArray, .int .i64 x0] w fun e w' => e = .returned (.bool true) ∧ Own w w' [] := by
  obtain ⟨m, hm, hm4⟩ := rem_wrap x0 4 (by omega) (by omega)
  have hc : m = 0 ∨ m = 1 ∨ m = 2 ∨ m = 3 := by omega
  rcases hc with rfl | rfl | rfl | rfl
  · exact otsSums_1 w M hl hb x0 hm
  · exact otsSums_2 w M hl hb x0 hm
  · exact otsSums_4 w M hl hb x0 hm
  · exact otsSums_8 w M hl hb x0 hm

end Go.Proofs.Ytokichlmgepdpaa
