/- chirographlaw1.ShaHexes: the walk. -/
import Derived.Test.YtilglaacegjdoaaTold
namespace Go.Proofs.Ytilglaacegjdoaa
open Go.RowKit

theorem str_at {xs : List Int} {i : Nat} {z : Int} (h : xs[i]? = some z) (h0 : 0 ≤ z) (h1 : z < 256) : ((strOfNums xs)[i]?).map (fun b => (b.toNat : Int)) = some z := by
  have hi := (List.getElem?_eq_some_iff.1 h).1
  have hs : i < (strOfNums xs).size := by rw [strOfNums_size]; exact hi
  rw [getElem?_pos (strOfNums xs) i hs]
  have hx : xs[i] = z := (List.getElem?_eq_some_iff.1 h).2
  have hd : i < (strOfNums xs).data.toList.length := hs
  have : (strOfNums xs)[i] = (strOfNums xs).data.toList[i]'hd := rfl
  rw [this]
  have h3 : (strOfNums xs).data.toList[i]'hd = UInt8.ofNat z.toNat := by
    simp only [strOfNums_data, List.getElem_map, hx]
  rw [h3]
  simp
  omega

theorem hexs_get (hs : List Int) : ∀ j, j < hs.length → (hexs hs)[2 * j]? = some (hexD (hs[j]?.getD 0 / 16)) ∧ (hexs hs)[2 * j + 1]? = some (hexD (hs[j]?.getD 0 % 16)) := by
  induction hs with
  | nil => intro j hj; simp at hj
  | cons x hs ih =>
    intro j hj
    have e : hexs (x :: hs) = hexD (x / 16) :: hexD (x % 16) :: hexs hs := rfl
    rw [e]
    cases j with
    | zero => exact ⟨rfl, rfl⟩
    | succ j =>
      have := ih j (by simpa using hj)
      rw [show 2 * (j + 1) = 2 * j + 1 + 1 by omega, show 2 * j + 1 + 1 + 1 = (2 * j + 1) + 1 + 1 by omega]
      simpa using this

theorem and1 (j : Nat) (h : j < 32) : bits .and .i64 (2 * (j : Int)) 1 = 0 ∧ bits .and .i64 (2 * (j : Int) + 1) 1 = 1 := by
  have : ∀ j : Nat, j < 32 → bits .and .i64 (2 * (j : Int)) 1 = 0 ∧ bits .and .i64 (2 * (j : Int) + 1) 1 = 1 := by decide +kernel
  exact this j h

set_option maxRecDepth 100000 in
set_option maxHeartbeats 1000000 in
theorem shaHexes_row (w : World) (hs : List Int) (hl : hs.length = 32) (hb : ∀ i, i < hs.length → 0 ≤ hs[i]?.getD 0 ∧ hs[i]?.getD 0 < 256) :
    Calls Try.prog 6 #[.agg (u8s hs).toArray] w fun e w' => e = .returned (.bool true) ∧ Own w w' [] := by
  have H := Own.refl w
  have hl' := Lib.hid hl
  have hb' : Hid (IsBytes hs) := hb
  have hg : Hid (∀ j, j < 32 → (hexs hs)[2 * j]? = some (hexD (hs[j]?.getD 0 / 16)) ∧ (hexs hs)[2 * j + 1]? = some (hexD (hs[j]?.getD 0 % 16))) := fun j hj => hexs_get hs j (by omega)
  have hsl : (strOfNums (hexs hs)).size = 64 := by rw [strOfNums_size, length_hexs, hl]
  have hsz : Hid ((Try.prog.info? 25).map (·.size) = some (u8s hs).length) := by show _ = _; rw [show (u8s hs).length = 32 by simpa [ints] using hl'.out]; exact size_hash
  obtain ⟨S, hS⟩ : ∃ S, strOfNums (hexs hs) = S := ⟨_, rfl⟩
  rw [hS] at hsl
  have hS' := Lib.hid hS
  clear hl hb hS
  go_enter Try.func6, Try.ntmps6
  go_wp2_with (first
    | (refine st_new rfl (rn_box (cs := u8s hs) H rfl rfl rfl) ?_; clear H; intro r w1 hr1 H)
    | (refine st_val rfl (rn_loadAll H rfl rfl (.head _) rfl rfl hsz.out) ?_)
    | (go_at_call 12; refine (shaHex_any _ hs hl'.out hb'.out).mono ?_; rintro e w3 ⟨rfl, h3⟩; rw [hS'.out]; have H2 := H.call0 h3; clear H h3; have H := H2; clear H2))
  clear hsz hsl
  have H1 : Own w w3 [(r, u8s hs, 25)] := H
  clear H
  go_loopw [4, 5, 6, 7] (fun v4 _ _ _ wr => ∃ i, i ≤ 64 ∧ v4 = .int .i64 ((i : Nat) : Int) ∧ Own w wr [(r, u8s hs, 25)]) (fun v4 _ _ _ _ => (64 - intOf v4).toNat)
  case atStart => exact ⟨0, by omega, rfl, H1⟩
  case round =>
    clear H1
    obtain ⟨i, hi, rfl, H⟩ := hrel
    by_cases hi2 : i < 64
    · obtain ⟨j, hj, hij⟩ : ∃ j, j < 32 ∧ (i = 2 * j ∨ i = 2 * j + 1) := ⟨i / 2, by omega, by omega⟩
      have hx := hb'.out j (by rw [hl'.out]; exact hj)
      have hgj := hg.out j hj
      obtain ⟨x, hxe⟩ : ∃ x, x = hs[j]?.getD 0 := ⟨_, rfl⟩
      rw [← hxe] at hx hgj
      have hxe' := Lib.hid hxe
      clear hxe
      obtain ⟨ha0, ha1⟩ := and1 j hj
      rcases hij with rfl | rfl
      · obtain ⟨z, hz, hz0, hz1, hz2⟩ : ∃ z, z = hexD (x / 16) ∧ 0 ≤ z ∧ z < 256 ∧ (x / 16 < 10 ∧ z = x / 16 + 48 ∨ 10 ≤ x / 16 ∧ z = x / 16 + 87) := by
          refine ⟨_, rfl, ?_⟩
          unfold hexD
          split <;> omega
        have hzS : Hid ((S[((2 * j : Nat) : Int).toNat]?).map (fun b => (b.toNat : Int)) = some z) := by
          show _ = _
          rw [← hS'.out]
          exact str_at (by rw [hz]; exact hgj.1) hz0 hz1
        clear hgj hz ha1
        rcases hz2 with ⟨hq, rfl⟩ | ⟨hq, rfl⟩
        · go_wp2_with (first
            | (refine st_val rfl (rn_idxStr rfl rfl rfl rfl (by omega) hzS.out) ?_)
            | (refine st_val rfl (rn_loadI H rfl rfl (.head _) rfl rfl (by rw [hl'.out]; omega)) ?_; rw [← hxe'.out]))
          exact ⟨⟨2 * j + 1, by omega, by go_num, H⟩, by simp [intOf]; omega⟩
        · go_wp2_with (first
            | (refine st_val rfl (rn_idxStr rfl rfl rfl rfl (by omega) hzS.out) ?_)
            | (refine st_val rfl (rn_loadI H rfl rfl (.head _) rfl rfl (by rw [hl'.out]; omega)) ?_; rw [← hxe'.out]))
          exact ⟨⟨2 * j + 1, by omega, by go_num, H⟩, by simp [intOf]; omega⟩
      · obtain ⟨z, hz, hz0, hz1, hz2⟩ : ∃ z, z = hexD (x % 16) ∧ 0 ≤ z ∧ z < 256 ∧ (x % 16 < 10 ∧ z = x % 16 + 48 ∨ 10 ≤ x % 16 ∧ z = x % 16 + 87) := by
          refine ⟨_, rfl, ?_⟩
          unfold hexD
          split <;> omega
        have hzS : Hid ((S[((2 * j + 1 : Nat) : Int).toNat]?).map (fun b => (b.toNat : Int)) = some z) := by
          show _ = _
          rw [← hS'.out]
          exact str_at (by rw [hz]; exact hgj.2) hz0 hz1
        clear hgj hz ha0
        have hxo : Hid (hs[(2 * j + 1) / 2]?.getD 0 = x) := by show _ = _; rw [hxe'.out, show (2 * j + 1) / 2 = j by omega]
        have hx16 := Int.emod_nonneg x (show (16 : Int) ≠ 0 by omega)
        have hx17 := Int.emod_lt_of_pos x (show (0 : Int) < 16 by omega)
        rcases hz2 with ⟨hq, rfl⟩ | ⟨hq, rfl⟩
        · go_wp2_with (first
            | (refine st_val rfl (rn_idxStr rfl rfl rfl rfl (by omega) hzS.out) ?_)
            | (refine st_val rfl (rn_loadI H rfl rfl (.head _) rfl rfl (by rw [hl'.out]; omega)) ?_; rw [hxo.out]))
          exact ⟨⟨2 * j + 2, by omega, by go_num, H⟩, by simp [intOf]; omega⟩
        · go_wp2_with (first
            | (refine st_val rfl (rn_idxStr rfl rfl rfl rfl (by omega) hzS.out) ?_)
            | (refine st_val rfl (rn_loadI H rfl rfl (.head _) rfl rfl (by rw [hl'.out]; omega)) ?_; rw [hxo.out]))
          exact ⟨⟨2 * j + 2, by omega, by go_num, H⟩, by simp [intOf]; omega⟩
    · obtain rfl : i = 64 := by omega
      have H0 := Lib.hid (H.end0 (by simpa using hr1))
      have HR := Own.refl wr
      clear H hg hb'
      go_wp2_with (go_at_call 9; refine (told_any _).mono ?_; rintro e w3 ⟨rfl, h3⟩; have H2 := HR.call0 h3; clear HR h3; have HR := H2; clear H2)
      have HF := Lib.hid (H0.out.trans HR)
      go_ret
      exact ⟨rfl, HF.out⟩
end Go.Proofs.Ytilglaacegjdoaa
