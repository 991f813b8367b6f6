/- ots: Types. -/
import Derived.Test.YtfihlmnbonnekaaDgA
namespace Go.Proofs.Ytfihlmnbonnekaa
open Go.RowKit

set_option maxRecDepth 100000 in
set_option maxHeartbeats 4000000 in
theorem types_any (w : World) : Calls Try.prog 79 #[] w fun e w' => ∃ b c, e = .returned (.slice (some ⟨b, 0, none⟩) 4 c) ∧ (∀ w'', Own w' w'' [] → ∀ i, i < 4 → w''.cell? ⟨b, i, none⟩ = some (.int .i64 (wOf i))) ∧ Own w w' [] := by
  have H := Own.refl w
  have hk := Lib.hid kinds_any
  go_enter Try.func79, Try.ntmps79
  have tok1 : True := trivial
  go_wp2_with (clear tok1; go_at_call 99; refine (hk.out _).mono ?_; rintro e w2 ⟨rfl, h3⟩; have H2 := H.call0 h3; clear H h3; have H := H2; clear H2)
  have O : Buf 3 .i64 w w2 [] (.slice none 0 0) [] := Buf.nil H
  clear H
  go_loopw [1, 5] (fun v1 v5 wr => ∃ (i : Nat) (p : Option Addr) (c : Nat), i ≤ 4 ∧ v5 = .int .i64 ((i : Nat) : Int) ∧ v1 = .slice p i c ∧ Buf 3 .i64 w wr [] v1 (([1, 2, 4, 8] : List Int).take i)) (fun _ v5 _ => ((4 : Nat) - intOf v5).toNat)
  case atStart => exact ⟨0, none, 0, by omega, rfl, rfl, O⟩
  case round =>
    clear O
    obtain ⟨i, p, c, hi, rfl, rfl, O⟩ := hrel
    by_cases hin : i < 4
    · obtain ⟨cc, hc⟩ := krow_cons i
      have hlen := Lib.hid (krow_len i)
      have hidx := Lib.hid (krow_at hin)
      have hst : Hid (([1, 2, 4, 8] : List Int).take i ++ [wOf i] = ([1, 2, 4, 8] : List Int).take (i + 1)) := by
        show _ = _
        match i, hin with
        | 0, _ => rfl
        | 1, _ => rfl
        | 2, _ => rfl
        | 3, _ => rfl
      have hl : Hid ((([1, 2, 4, 8] : List Int).take i).length = i) := by show _ = _; simp; omega
      obtain ⟨kr, hkr⟩ : ∃ k, k = krow i := ⟨_, rfl⟩
      rw [← hkr] at hc hlen hidx
      obtain ⟨wi, hwi⟩ : ∃ k, k = wOf i := ⟨_, rfl⟩
      rw [← hwi] at hc hst
      have h0 : Hid ((i64s kr)[0]? = some (.int .i64 wi)) := by show _ = _; rw [hc]; rfl
      have hl4 : Hid ((i64s kr).length = 4) := by show _ = _; rw [length_ints]; exact hlen.out
      have hsz : Hid ((Try.prog.info? 142).map (·.size) = some (i64s kr).length) := by show _ = _; rw [hl4.out]; kernel_rfl
      obtain ⟨ts, hts⟩ : ∃ t, t = ([1, 2, 4, 8] : List Int).take i := ⟨_, rfl⟩
      rw [← hts] at O hst hl
      have hsum : Hid (ts.length + [wi].length = i + 1) := by show _ = _; rw [hl.out]; rfl
      clear hc hkr hwi hts
      go_wp2_with (first
        | (refine st_val rfl (rn_idxAggs rfl rfl (by kernel_rfl) rfl rfl rfl rfl (by omega) (by omega) hidx.out) ?_)
        | (refine st_newG rfl (rn_alloc (Own.refl wr) rfl info_kind) ?_; intro b w3 hb M; have g3 := Nat.le_trans O.own0.size hb; have O2 := O.callNew M hb; clear O M; have O := O2; clear O2)
        | (refine st_bufPut (vs := i64s kr) rfl O rfl rfl rfl hsz.out (by rw [hl4.out]; rfl) (oneCell_ints _ _) ?_; clear O; intro w4 O)
        | (refine st_val rfl (rn_load O.own0 rfl rfl (.head _) rfl rfl h0.out) ?_)
        | (refine st_lit rfl O rfl (cs := i64s [wi]) (el := 3) (fun w' => by kernel_rfl) ?_; clear O; intro b10 w10 hb10 O)
        | (refine st_app (ys := [wi]) rfl O elem_i64 rfl rfl rfl rfl (O.litAt (.head _) rfl) (by rw [hsum.out]; omega) (by rw [hsum.out]; omega) ?_; clear O; intro p11 c11 w11 O; rw [hst.out] at O; rw [hsum.out] at O ⊢; have O2 := (O.pop hb10).pop g3; clear O; have O := O2; clear O2))
      exact ⟨⟨i + 1, _, _, by omega, by go_num, rfl, O⟩, by simp [intOf]; omega⟩
    · obtain rfl : i = 4 := by omega
      have h1 := Lib.hid O
      clear O
      go_wp2_with fail
      go_ret
      obtain ⟨Lv, ⟨_, ⟨hv, h2, _⟩ | ⟨g, cap, cs, hv, rfl, hn, hcap, hcl, htk⟩⟩, h4, h5⟩ := h1.out
      · simp at h2
      · cases hv
        refine ⟨g, c, rfl, fun w'' hw i hi => hw.old ?_ (by simp), h4.drop h5⟩
        rw [h4.cell (.head _)]
        have h6 := congrArg (fun l => l[i]?) htk
        rw [List.getElem?_take_of_lt (by simpa using hi)] at h6
        rw [h6]
        match i, hi with
        | 0, _ => rfl
        | 1, _ => rfl
        | 2, _ => rfl
        | 3, _ => rfl

end Go.Proofs.Ytfihlmnbonnekaa
