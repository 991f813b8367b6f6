/- slices.Equal of hashes. -/
import Derived.Test.YtjcnhpnadfhjaaaRefSums
namespace Go.Proofs.Ytjcnhpnadfhjaaa
open Go.RowKit

theorem hcells_get : ∀ (hs : List (List Int)), (∀ h ∈ hs, h.length = 32) → ∀ (i : Nat) (h : List Int), hs[i]? = some h → ∀ j v, (u8s h)[j]? = some v → (hcells hs)[i * 32 + j]? = some v
  | [], _, i, h, hi, _, _, _ => by simp at hi
  | g :: hs, hl, 0, h, hi, j, v, hj => by
    simp at hi; subst hi
    have hjl := (List.getElem?_eq_some_iff.1 hj).1
    show (u8s g ++ hcells hs)[0 * 32 + j]? = some v
    rw [Nat.zero_mul, Nat.zero_add, List.getElem?_append_left hjl]; exact hj
  | g :: hs, hl, i + 1, h, hi, j, v, hj => by
    have hg := hl g (by simp)
    have ih := hcells_get hs (fun h hh => hl h (by simp [hh])) i h (by simpa using hi) j v hj
    show (u8s g ++ hcells hs)[(i + 1) * 32 + j]? = some v
    rw [List.getElem?_append_right (by rw [length_ints, hg]; omega), length_ints, hg, show (i + 1) * 32 + j - 32 = i * 32 + j by omega]
    exact ih

theorem OldH.shape {w : World} {v : Value} {hs : List (List Int)} (h : OldH w v hs) : ∃ p c, v = .slice p hs.length c := by
  rcases h.sl with ⟨⟨p, rfl⟩, h0, _⟩ | ⟨b, off, cap, rfl, _, _⟩
  · exact ⟨p, 0, by rw [h0]⟩
  · exact ⟨_, _, rfl⟩
theorem OldH.addr {w : World} {p : Option Addr} {n c : Nat} {hs : List (List Int)} (h : OldH w (.slice p n c) hs) (hn : 0 < hs.length) : ∃ b off, p = some ⟨b, off, none⟩ := by
  rcases h.sl with ⟨_, h0, _⟩ | ⟨b, off, cap, hv, _, _⟩
  · omega
  · cases hv; exact ⟨b, off, rfl⟩
theorem OldH.mv {w w1 : World} {v : Value} {hs : List (List Int)} (h : OldH w v hs) (ho : Own w w1 []) : OldH w1 v hs :=
  ⟨h.sl.own0 ho, fun k hk => Nat.lt_of_lt_of_le (h.lt k hk) ho.size, h.el⟩
theorem OldH.row {w : World} {b off n c : Nat} {hs : List (List Int)} (h : OldH w (.slice (some ⟨b, off, none⟩) n c) hs) {i : Nat} {g : List Int} (hi : hs[i]? = some g) : ∀ j v, (u8s g)[j]? = some v → w.cell? ⟨b, off + i * 32 + j, none⟩ = some v := by
  intro j v hj
  have hlt := (List.getElem?_eq_some_iff.1 hi).1
  rcases h.sl with ⟨_, h0, _⟩ | ⟨b', off', cap, hv, _, hc⟩
  · omega
  · cases hv
    rw [Nat.add_assoc]
    exact hc _ v (hcells_get hs h.el i g hi j v hj)

theorem size_hash32 {g : List Int} (h : g.length = 32) : (Try.prog.info? 35).map (·.size) = some (u8s g).length := by rw [length_ints, h]; exact size_hash

theorem take_succ_eq {α : Type} {l1 l2 : List α} {i : Nat} {a b : α} (h : l1.take i = l2.take i) (h1 : l1[i]? = some a) (h2 : l2[i]? = some b) : l1.take (i + 1) = l2.take (i + 1) ↔ a = b := by
  obtain ⟨h3, rfl⟩ := List.getElem?_eq_some_iff.1 h1
  obtain ⟨h4, rfl⟩ := List.getElem?_eq_some_iff.1 h2
  rw [List.take_succ_eq_append_getElem h3, List.take_succ_eq_append_getElem h4, h]
  exact ⟨fun e => by have := List.append_cancel_left e; simpa using this, fun e => by rw [e]⟩

set_option maxRecDepth 100000 in
set_option maxHeartbeats 1000000 in
theorem equal_any (w : World) (v1 v2 : Value) (hs1 hs2 : List (List Int)) (h1 : OldH w v1 hs1) (h2 : OldH w v2 hs2) (hN : hs1.length ≤ 4398046511104) :
    Calls Try.prog 15 #[v1, v2] w fun e w' => e = .returned (.bool (decide (hs1 = hs2))) ∧ Own w w' [] := by
  have H := Own.refl w
  obtain ⟨p1, c1, rfl⟩ := h1.shape
  obtain ⟨p2, c2, rfl⟩ := h2.shape
  have h1' := Lib.hid h1
  have h2' := Lib.hid h2
  obtain ⟨n1, hn1⟩ : ∃ n, n = hs1.length := ⟨_, rfl⟩
  obtain ⟨n2, hn2⟩ : ∃ n, n = hs2.length := ⟨_, rfl⟩
  rw [← hn1] at h1' ⊢
  rw [← hn2] at h2' ⊢
  rw [← hn1] at hN
  have hn1' := Lib.hid hn1
  have hn2' := Lib.hid hn2
  clear h1 h2 hn1 hn2
  by_cases hne : n1 = n2
  · subst hne
    go_enter Try.func15, Try.ntmps15
    go_wp2_with fail
    go_loopw [5, 13] (fun _ v13 wr => ∃ i, i ≤ n1 ∧ v13 = .int .i64 ((i : Nat) : Int) ∧ hs1.take i = hs2.take i ∧ Own w wr []) (fun _ v13 _ => ((n1 : Int) - intOf v13).toNat)
    case atStart => exact ⟨0, by omega, rfl, rfl, H⟩
    case round =>
      clear H
      obtain ⟨i, hi, rfl, htk, H⟩ := hrel
      by_cases hin : i < n1
      · obtain ⟨g1, hg1⟩ : ∃ g, hs1[i]? = some g := ⟨_, List.getElem?_eq_getElem (by have := hn1'.out; omega)⟩
        obtain ⟨g2, hg2⟩ : ∃ g, hs2[i]? = some g := ⟨_, List.getElem?_eq_getElem (by have := hn2'.out; omega)⟩
        have hl1 := Lib.hid (h1'.out.el g1 (List.mem_of_getElem? hg1))
        have hl2 := Lib.hid (h2'.out.el g2 (List.mem_of_getElem? hg2))
        obtain ⟨b1, o1, e1⟩ := h1'.out.addr (by have := hn1'.out; omega)
        obtain ⟨b2, o2, e2⟩ := h2'.out.addr (by have := hn2'.out; omega)
        subst e1 e2
        have r1 : Hid (∀ w', Own wr w' [] → ∀ j v, (u8s g1)[j]? = some v → w'.cell? ⟨b1, o1 + (i : Int).toNat * 32 + j, none⟩ = some v) := fun w' h => (h1'.out.mv (H.trans h)).row hg1
        have r2 : Hid (∀ w', Own wr w' [] → ∀ j v, (u8s g2)[j]? = some v → w'.cell? ⟨b2, o2 + (i : Int).toNat * 32 + j, none⟩ = some v) := fun w' h => (h2'.out.mv (H.trans h)).row hg2
        have hstep : Hid (hs1.take (i + 1) = hs2.take (i + 1) ↔ g1 = g2) := take_succ_eq htk hg1 hg2
        obtain ⟨q, hq⟩ : ∃ q, decide (g1 = g2) = q := ⟨_, rfl⟩
        have eS : ∀ w, (Op.equalIn 10000 35 (.agg (u8s g1).toArray) (.agg (u8s g2).toArray)).run Try.prog w = .ok q w := fun w => by rw [eqHash w g1 g2 hl1.out hl2.out, hq]
        have hq' := Lib.hid hq
        clear hg1 hg2 htk hq
        have hib : i < 4398046511104 := by omega
        go_wp2_with fail
        refine region_grow 9 (by kernel_rfl) (by kernel_rfl) (by kernel_rfl) [.val (.slice (some ⟨b1, o1, none⟩) n1 c1), .val (.int .i64 i), .val (.pointer (some ⟨b1, o1 + (i : Int).toNat * 32, none⟩)), .val (.agg (u8s g1).toArray), .val (.slice (some ⟨b2, o2, none⟩) n1 c2), .val (.int .i64 i), .val (.pointer (some ⟨b2, o2 + (i : Int).toNat * 32, none⟩)), .val (.agg (u8s g2).toArray), .val (.bool (!q))] rfl ?_
        try go_frame
        repeat (first
          | (refine sp_run (v := .pointer (some ⟨b1, o1 + (i : Int).toNat * 32, none⟩)) rfl (fun w' hw' _ => rn_idxSl (j := (i : Int)) rfl rfl size_hash rfl rfl (by omega) (by omega)) ?_; go_frame)
          | (refine sp_run (v := .agg (u8s g1).toArray) rfl (fun w' hw' _ => rn_cells rfl rfl rfl rfl (size_hash32 hl1.out) (r1.out w' hw')) ?_; go_frame)
          | (refine sp_run (v := .pointer (some ⟨b2, o2 + (i : Int).toNat * 32, none⟩)) rfl (fun w' hw' _ => rn_idxSl (j := (i : Int)) rfl rfl size_hash rfl rfl (by omega) (by omega)) ?_; go_frame)
          | (refine sp_run (v := .agg (u8s g2).toArray) rfl (fun w' hw' _ => rn_cells rfl rfl rfl rfl (size_hash32 hl2.out) (r2.out w' hw')) ?_; go_frame)
          | (refine sp_val (fun w' hw' hF => ?_) ⟨_, rfl, Nat.le_of_ble_eq_true rfl⟩ ?_
             · go_big_quiet_step (fail)
               exact rfl
             try go_frame))
        refine sp_nil ?_
        intro w' hw' hF
        have H' := H.trans hw'
        clear H hw' hF r1 r2 eS
        simp only [List.drop_succ_cons, List.drop_zero]
        cases q with
        | true =>
          go_wp2_with fail
          exact ⟨⟨i + 1, by omega, by go_num, hstep.out.2 (of_decide_eq_true hq'.out), H'⟩, by simp [intOf]; omega⟩
        | false =>
          have hfin : Hid (decide (hs1 = hs2) = false) := by
            show _ = _
            rw [decide_eq_false_iff_not]
            intro e
            exact absurd (hstep.out.1 (by rw [e])) (of_decide_eq_false hq'.out)
          have H2 := Lib.hid H'
          go_wp2_with fail
          go_ret
          exact ⟨by rw [hfin.out]; rfl, H2.out⟩
      · obtain rfl : i = n1 := by omega
        have hfin : Hid (decide (hs1 = hs2) = true) := by
          show _ = _
          rw [decide_eq_true_eq]
          rw [List.take_of_length_le (by have := hn1'.out; omega), List.take_of_length_le (by have := hn2'.out; omega)] at htk
          exact htk
        have H2 := Lib.hid H
        clear htk
        go_wp2_with fail
        go_ret
        exact ⟨by rw [hfin.out]; rfl, H2.out⟩
  · have hfin : Hid (decide (hs1 = hs2) = false) := by
      show _ = _
      rw [decide_eq_false_iff_not]
      intro e
      exact hne (by rw [hn1'.out, hn2'.out, e])
    have hne' : ¬ ((n1 : Int) = (n2 : Int)) := by omega
    clear hne
    have H2 := Lib.hid H
    go_enter Try.func15, Try.ntmps15
    go_wp2_with fail
    go_ret
    exact ⟨by rw [hfin.out]; rfl, H2.out⟩

end Go.Proofs.Ytjcnhpnadfhjaaa
