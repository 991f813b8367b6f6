/- chunk.Join. -/
import Derived.Test.YtjcnhpnadfhjaaaEqH
namespace Go.Proofs.Ytjcnhpnadfhjaaa
open Go.RowKit

/-- a piece's length may be -/
def okAt (bss : List (List Int)) (i : Nat) : Prop := 1 ≤ (bss[i]?.getD []).length ∧ (bss[i]?.getD []).length ≤ 256 ∧ (i + 1 < bss.length → 256 ≤ (bss[i]?.getD []).length)
instance (bss : List (List Int)) (i : Nat) : Decidable (okAt bss i) := by unfold okAt; infer_instance
def okAll (bss : List (List Int)) : Prop := ∀ i, i < bss.length → okAt bss i
instance (bss : List (List Int)) : Decidable (okAll bss) := by unfold okAll; infer_instance
/-- what Join tells -/
def jcode (bss hs : List (List Int)) : Int := if okAll bss then (if sumsTo bss bss.length = hs then 0 else 8) else 2
/-- what Join makes -/
def jbytes (bss hs : List (List Int)) : List Int := if jcode bss hs = 0 then bss.flatten else []

theorem jcode_bad {bss hs : List (List Int)} {i : Nat} (hi : i < bss.length) (h : ¬ okAt bss i) : jcode bss hs = 2 := by
  unfold jcode; rw [if_neg (fun h2 => h (h2 i hi))]
theorem jcode_sum {bss hs : List (List Int)} (h : okAll bss) (h2 : ¬ sumsTo bss bss.length = hs) : jcode bss hs = 8 := by
  unfold jcode; rw [if_pos h, if_neg h2]
theorem jcode_ok {bss hs : List (List Int)} (h : okAll bss) (h2 : sumsTo bss bss.length = hs) : jcode bss hs = 0 := by
  unfold jcode; rw [if_pos h, if_pos h2]
theorem jbytes_ne {bss hs : List (List Int)} {c : Int} (h : jcode bss hs = c) (hc : c ≠ 0) : jbytes bss hs = [] := by
  unfold jbytes; rw [if_neg (by rw [h]; exact hc)]
theorem jbytes_ok {bss hs : List (List Int)} (h : jcode bss hs = 0) : jbytes bss hs = bss.flatten := by
  unfold jbytes; rw [if_pos h]

theorem flatL_all (ls : List (Value × List Int)) : flatL ls ls.length = (ls.map (·.2)).flatten := by
  unfold flatL
  rw [List.take_of_length_le (Nat.le_refl _), List.flatMap_def]

theorem BIn.nil (w : World) : BIn [] w (.slice none 0 0) := ⟨⟨_, _, rfl⟩, Or.inl ⟨⟨_, rfl⟩, rfl, rfl⟩, fun k hk => by cases hk⟩

set_option maxRecDepth 100000 in
set_option maxHeartbeats 2000000 in
theorem join_any (w : World) (v1 v2 : Value) (ls : List (Value × List Int)) (hs : List (List Int)) (h1 : OldL w v1 ls) (h2 : OldH w v2 hs) (hn9 : ls.length ≤ 1000000) (hl : ∀ (i : Nat) (x : Value × List Int), ls[i]? = some x → x.2.length ≤ 140737488351000) :
    Calls Try.prog 7 #[v1, v2] w fun e w' => ∃ r, e = .returned (.tuple #[r, .int .i64 (jcode (ls.map (·.2)) hs)]) ∧ BIn (jbytes (ls.map (·.2)) hs) w' r ∧ Own w w' [] := by
  have H := Own.refl w
  obtain ⟨p0, c0, rfl⟩ := h1.addr'
  obtain ⟨p2, c2, rfl⟩ := h2.shape
  obtain ⟨n, hn⟩ : ∃ n, n = ls.length := ⟨_, rfl⟩
  obtain ⟨n2, hn2⟩ : ∃ n, n = hs.length := ⟨_, rfl⟩
  rw [← hn] at h1 hn9 ⊢
  rw [← hn2] at h2 ⊢
  have O := Lib.hid h1
  have O2 := Lib.hid h2
  have hl' := Lib.hid hl
  have hn' := Lib.hid hn
  obtain ⟨bss, hbss⟩ : ∃ bss, bss = ls.map (·.2) := ⟨_, rfl⟩
  have hbl : Hid (bss.length = n) := by show _ = _; rw [hbss, List.length_map, hn]
  have hbss' := Lib.hid hbss
  obtain ⟨F, hF⟩ : ∃ F, F = flatL ls := ⟨_, rfl⟩
  have hFs : Hid (∀ i x, ls[i]? = some x → F (i + 1) = F i ++ x.2) := fun i x hx => by rw [hF]; exact flatL_succ hx
  have hF0 : Hid (F 0 = []) := by rw [hF]; rfl
  have hFn : Hid (F n = bss.flatten) := by show _ = _; rw [hF, hn, flatL_all, hbss]
  rw [← hbss]
  clear h1 h2 hl hn hn2 hF hbss
  have B0 : Buf 5 .u8 w w [] (.slice none 0 0) [] := Buf.nil H
  clear H
  go_enter Try.func7, Try.ntmps7
  go_wp2_with fail
  go_loopw [6, 7, 8, 11] (fun v6 _ _ v11 wr => ∃ i p c, i ≤ n ∧ v11 = .int .i64 ((i : Nat) : Int) ∧ v6 = .slice p (F i).length c ∧ (F i).length ≤ 256 * i ∧ (∀ j, j < i → okAt bss j) ∧ Buf 5 .u8 w wr [] v6 (F i)) (fun _ _ _ v11 _ => ((n : Int) - intOf v11).toNat)
  case atStart => exact ⟨0, none, 0, by omega, rfl, by rw [hF0.out]; rfl, by rw [hF0.out]; simp, fun j hj => by omega, by rw [hF0.out]; exact B0⟩
  case round =>
    clear B0 hF0
    obtain ⟨i, p, c, hi, rfl, rfl, hlen, hok, B⟩ := hrel
    have hok' := Lib.hid hok
    have hlF := Lib.hid hlen
    clear hok hlen
    by_cases hin : i < n
    · obtain ⟨x, hx, hxo, ⟨px, cx, hxs⟩, hxx⟩ := O.out.get (i := i) (by have := hn'.out; omega)
      have hFx := Lib.hid (hFs.out i x hx)
      obtain ⟨og, oo, hp0⟩ := O.out.addr (by have := hn'.out; omega)
      subst hp0
      have hcell : Hid (∀ w1 L1, Own w w1 L1 → (∀ b ∈ L1.map (·.1), w.heap.size ≤ b) → w1.cell? ⟨og, oo + (i : Int).toNat * 1, none⟩ = some (.slice px x.2.length cx)) := fun w1 L1 h1 h2 => by rw [← hxs]; exact O.out.cellAt h1 h2 (by simpa using hx)
      have hxo' : Hid (∀ w1 L1, Own w w1 L1 → (∀ b ∈ L1.map (·.1), w.heap.size ≤ b) → BytesAt w1 (.slice px x.2.length cx) x.2) := fun w1 L1 h1 h2 => by rw [← hxs]; exact hxo.at h1 h2
      rw [← hbss'.out] at hxx
      have hat : Hid (okAt bss i ↔ 1 ≤ x.2.length ∧ x.2.length ≤ 256 ∧ (i + 1 < n → 256 ≤ x.2.length)) := by show _ ↔ _; unfold okAt; rw [hxx, hbl.out]
      obtain ⟨ys, hys⟩ : ∃ ys, x.2 = ys := ⟨_, rfl⟩
      rw [hys] at hcell hxo' hFx hat
      obtain ⟨m, hm⟩ : ∃ m, m = ys.length := ⟨_, rfl⟩
      rw [← hm] at hcell hat hxo'
      have hm' := Lib.hid hm
      clear hxo hxs hx hys hxx hm
      by_cases hgood : 1 ≤ m ∧ m ≤ 256 ∧ (i + 1 < n → 256 ≤ m)
      · have hgo : Hid (∀ j, j < i + 1 → okAt bss j) := fun j hj => by
          rcases Nat.lt_or_ge j i with h | h
          · exact hok'.out j h
          · obtain rfl : j = i := by omega
            exact hat.out.2 hgood
        obtain ⟨hg1, hg2, hg3⟩ := hgood
        have hl3 : Hid ((F (i + 1)).length = (F i).length + m) := by show _ = _; rw [hFx.out, List.length_append, ← hm'.out]
        have hl4 : Hid ((F i).length ≤ 256000000) := by show _ ≤ _; have := hlF.out; omega
        by_cases hlast : i + 1 < n
        · have hm256 : m = 256 := by have := hg3 hlast; omega
          subst hm256
          clear hg3 hg1 hg2
          go_wp2_with (first
            | (refine st_val rfl (rn_idxSl (j := (i : Int)) rfl rfl size_sl rfl rfl (by omega) (by omega)) ?_)
            | (refine st_val rfl (rn_cell (i := oo + (i : Int).toNat * 1) rfl rfl rfl rfl (hcell.out _ _ B.own0 (by simp))) ?_)
            | (refine st_app (ys := ys) rfl B elem_u8 rfl rfl rfl rfl (hxo'.out _ _ B.own0 (by simp)) (by have := hl4.out; have := hm'.out; omega) (by have := hl4.out; have := hm'.out; omega) ?_; clear B; intro p6 c6 w6 B; rw [← hm'.out, ← hl3.out]; rw [← hm'.out, ← hl3.out, ← hFx.out] at B))
          exact ⟨⟨i + 1, _, _, by omega, by go_num, rfl, by rw [hl3.out]; have := hlF.out; omega, hgo.out, B⟩, by simp [intOf]; omega⟩
        · have hlast' : n ≤ i + 1 := by omega
          clear hg3 hlast
          go_wp2_with (first
            | (refine st_val rfl (rn_idxSl (j := (i : Int)) rfl rfl size_sl rfl rfl (by omega) (by omega)) ?_)
            | (refine st_val rfl (rn_cell (i := oo + (i : Int).toNat * 1) rfl rfl rfl rfl (hcell.out _ _ B.own0 (by simp))) ?_)
            | (refine st_app (ys := ys) rfl B elem_u8 rfl rfl rfl rfl (hxo'.out _ _ B.own0 (by simp)) (by have := hl4.out; have := hm'.out; omega) (by have := hl4.out; have := hm'.out; omega) ?_; clear B; intro p6 c6 w6 B; rw [← hm'.out, ← hl3.out]; rw [← hm'.out, ← hl3.out, ← hFx.out] at B))
          exact ⟨⟨i + 1, _, _, by omega, by go_num, rfl, by rw [hl3.out]; have := hlF.out; omega, hgo.out, B⟩, by simp [intOf]; omega⟩
      · have hcode := Lib.hid (jcode_bad (hs := hs) (i := i) (by rw [hbl.out]; exact hin) (fun h => hgood (hat.out.1 h)))
        have hbytes := Lib.hid (jbytes_ne hcode.out (by decide))
        have HB := Lib.hid B.own0
        have hbadc : m < 1 ∨ 256 < m ∨ (1 ≤ m ∧ m < 256 ∧ i + 1 < n) := by omega
        clear hgood
        rcases hbadc with hb | hb | ⟨hb1, hb2, hb3⟩
        all_goals
          go_wp2_with (first
            | (refine st_val rfl (rn_idxSl (j := (i : Int)) rfl rfl size_sl rfl rfl (by omega) (by omega)) ?_)
            | (refine st_val rfl (rn_cell (i := oo + (i : Int).toNat * 1) rfl rfl rfl rfl (hcell.out _ _ B.own0 (by simp))) ?_))
          go_ret2
          exact ⟨_, by rw [hcode.out]; rfl, by rw [hbytes.out]; exact BIn.nil _, HB.out⟩
    · obtain rfl : i = n := by omega
      have hall : Hid (okAll bss) := fun j hj => hok'.out j (by rw [hbl.out] at hj; exact hj)
      have hcs : Hid (∀ w', Own w w' [] → Calls Try.prog 8 #[.slice p0 i c0] w' fun e w'' => ∃ r, e = .returned r ∧ OldH w'' r (sumsTo bss bss.length) ∧ Own w' w'' []) := fun w' h => by
        have := csums_any w' _ ls (O.out.mv h) (by have := hn'.out; omega) hl'.out
        have e : sumsTo bss bss.length = sumsTo (ls.map (·.2)) ls.length := by rw [hbss'.out, List.length_map]
        rw [e]
        exact this
      have hsl : Hid ((sumsTo bss bss.length).length = i) := by show _ = _; rw [length_sumsTo, hbl.out]
      obtain ⟨ss, hss⟩ : ∃ ss, sumsTo bss bss.length = ss := ⟨_, rfl⟩
      obtain ⟨q, hq⟩ : ∃ q, decide (ss = hs) = q := ⟨_, rfl⟩
      rw [hss] at hcs hsl
      have hq' := Lib.hid hq
      have hss' := Lib.hid hss
      clear hss hq
      have hce : Hid (∀ w' r, Own w w' [] → OldH w' r ss → Calls Try.prog 15 #[r, .slice p2 n2 c2] w' fun e w'' => e = .returned (.bool q) ∧ Own w' w'' []) := fun w' r h hr => by
        have := equal_any w' r _ ss hs hr (O2.out.mv h) (by rw [hsl.out]; omega)
        rw [hq'.out] at this
        exact this
      have hFl : Hid (F i = bss.flatten) := hFn.out
      cases q with
      | true =>
        have hcode := Lib.hid (jcode_ok (hs := hs) hall.out (by rw [hss'.out]; exact of_decide_eq_true hq'.out))
        have hbytes := Lib.hid (jbytes_ok hcode.out)
        clear hl' O O2 hFs hFn
        go_wp2_with (first
          | (go_at_call 8; refine (hcs.out _ B.own0).mono ?_; rintro e w3 ⟨r, rfl, hr, h3⟩; have B2 := B.call0 h3; clear B h3 hcs; have B := B2; clear B2)
          | (go_at_call 15; refine (hce.out _ _ B.own0 hr).mono ?_; rintro e w4 ⟨rfl, h3⟩; have B2 := B.call0 h3; clear B h3 hce hr; have B := B2; clear B2))
        have g1 := Lib.hid B.bytesAt
        have g2 := Lib.hid B.lt
        have g3 := Lib.hid B.own0
        clear B
        go_ret2
        exact ⟨_, by rw [hcode.out]; rfl, by rw [hbytes.out, ← hFl.out]; exact ⟨⟨_, _, rfl⟩, g1.out, g2.out⟩, g3.out⟩
      | false =>
        have hcode := Lib.hid (jcode_sum (hs := hs) hall.out (by rw [hss'.out]; exact of_decide_eq_false hq'.out))
        have hbytes := Lib.hid (jbytes_ne hcode.out (by decide))
        clear hFl hl' O O2 hFs hFn
        go_wp2_with (first
          | (go_at_call 8; refine (hcs.out _ B.own0).mono ?_; rintro e w3 ⟨r, rfl, hr, h3⟩; have B2 := B.call0 h3; clear B h3 hcs; have B := B2; clear B2)
          | (go_at_call 15; refine (hce.out _ _ B.own0 hr).mono ?_; rintro e w4 ⟨rfl, h3⟩; have B2 := B.call0 h3; clear B h3 hce hr; have B := B2; clear B2))
        have g3 := Lib.hid B.own0
        clear B
        go_ret2
        exact ⟨_, by rw [hcode.out]; rfl, by rw [hbytes.out]; exact BIn.nil _, g3.out⟩

end Go.Proofs.Ytjcnhpnadfhjaaa
