/- The reference's Join. -/
import Derived.Test.YtjcnhpnadfhjaaaJoin
namespace Go.Proofs.Ytjcnhpnadfhjaaa
open Go.RowKit

section
variable {P : Program} {ops : Array Oper} {rest : List Oper} {o : Oper} {a : Act} {w : World} {Q : Exit → Act → World → Prop}
theorem st_valG (hw : Region.wanted o (yielded ops a.tmps) = true) {v : Value} (hrun : (execOp a.eval o).run P w = .ok (.value v) w)
    (h : wpList P ops Q rest (a.put o.dst v) w) : wpList P ops Q (o :: rest) a w :=
  BigFrame.wpList_want hw fun K hK => by unfold Oper.wp; rw [hrun, Oper.upon_value]; exact hK _ _ h
end

set_option maxRecDepth 100000 in
set_option maxHeartbeats 2000000 in
theorem refJoin_any (w : World) (v1 v2 : Value) (ls : List (Value × List Int)) (hs : List (List Int)) (h1 : OldL w v1 ls) (h2 : OldH w v2 hs) (hn9 : ls.length ≤ 1000000) (hl : ∀ (i : Nat) (x : Value × List Int), ls[i]? = some x → x.2.length ≤ 70368744170000) :
    Calls Try.prog 14 #[v1, v2] w fun e w' => ∃ r, e = .returned (.tuple #[r, .int .i64 (jcode (ls.map (·.2)) hs)]) ∧ BIn (jbytes (ls.map (·.2)) hs) w' r ∧ Own w w' [] := by
  have H := Own.refl w
  obtain ⟨p0, c0, rfl⟩ := h1.addr'
  obtain ⟨p2, c2, rfl⟩ := h2.shape
  obtain ⟨n, hn⟩ : ∃ n, n = ls.length := ⟨_, rfl⟩
  obtain ⟨n2, hn2⟩ : ∃ n, n = hs.length := ⟨_, rfl⟩
  rw [← hn] at h1 hn9 ⊢
  rw [← hn2] at h2 ⊢
  have O := Lib.hid h1
  have O2 := Lib.hid h2
  have hn2' := Lib.hid hn2
  have hl' := Lib.hid hl
  have hn' := Lib.hid hn
  obtain ⟨bss, hbss⟩ : ∃ bss, bss = ls.map (·.2) := ⟨_, rfl⟩
  have hbl : Hid (bss.length = n) := by show _ = _; rw [hbss, List.length_map, hn]
  have hbss' := Lib.hid hbss
  obtain ⟨F, hF⟩ : ∃ F, F = flatL ls := ⟨_, rfl⟩
  have hFs : Hid (∀ i x, ls[i]? = some x → F (i + 1) = F i ++ x.2) := fun i x hx => by rw [hF]; exact flatL_succ hx
  have hF0 : Hid (F 0 = []) := by rw [hF]; rfl
  have hFn : Hid (F n = bss.flatten) := by show _ = _; rw [hF, hn, flatL_all, hbss]
  rw [← hbss]
  clear h1 h2 hl hn hn2 hF hbss
  have B0 : Buf 5 .u8 w w [] (.slice none 0 0) [] := Buf.nil H
  clear H
  go_enter Try.func14, Try.ntmps14
  go_wp2_with fail
  go_loopw [6, 7] (fun v6 v11 wr => ∃ i p c, i ≤ n ∧ v11 = .int .i64 ((i : Nat) : Int) ∧ v6 = .slice p (F i).length c ∧ (F i).length ≤ 256 * i ∧ (∀ j, j < i → okAt bss j) ∧ Buf 5 .u8 w wr [] v6 (F i)) (fun _ v11 _ => ((n : Int) - intOf v11).toNat)
  case atStart => exact ⟨0, none, 0, by omega, rfl, by rw [hF0.out]; rfl, by rw [hF0.out]; simp, fun j hj => by omega, by rw [hF0.out]; exact B0⟩
  case round =>
    clear B0 hF0
    obtain ⟨i, p, c, hi, rfl, rfl, hlen, hok, B⟩ := hrel
    have hok' := Lib.hid hok
    have hlF := Lib.hid hlen
    clear hok hlen
    by_cases hin : i < n
    · obtain ⟨x, hx, hxo, ⟨px, cx, hxs⟩, hxx⟩ := O.out.get (i := i) (by have := hn'.out; omega)
      have hFx := Lib.hid (hFs.out i x hx)
      obtain ⟨og, oo, hp0⟩ := O.out.addr (by have := hn'.out; omega)
      subst hp0
      have hcell : Hid (∀ w1 L1, Own w w1 L1 → (∀ b ∈ L1.map (·.1), w.heap.size ≤ b) → w1.cell? ⟨og, oo + (i : Int).toNat * 1, none⟩ = some (.slice px x.2.length cx)) := fun w1 L1 h1 h2 => by rw [← hxs]; exact O.out.cellAt h1 h2 (by simpa using hx)
      have hxo' : Hid (∀ w1 L1, Own w w1 L1 → (∀ b ∈ L1.map (·.1), w.heap.size ≤ b) → BytesAt w1 (.slice px x.2.length cx) x.2) := fun w1 L1 h1 h2 => by rw [← hxs]; exact hxo.at h1 h2
      rw [← hbss'.out] at hxx
      have hat : Hid (okAt bss i ↔ 1 ≤ x.2.length ∧ x.2.length ≤ 256 ∧ (i + 1 < n → 256 ≤ x.2.length)) := by show _ ↔ _; unfold okAt; rw [hxx, hbl.out]
      obtain ⟨ys, hys⟩ : ∃ ys, x.2 = ys := ⟨_, rfl⟩
      rw [hys] at hcell hxo' hFx hat
      obtain ⟨m, hm⟩ : ∃ m, m = ys.length := ⟨_, rfl⟩
      rw [← hm] at hcell hat hxo'
      have hm' := Lib.hid hm
      clear hxo hxs hx hys hxx hm
      by_cases hgood : 1 ≤ m ∧ m ≤ 256 ∧ (i + 1 < n → 256 ≤ m)
      · have hgo : Hid (∀ j, j < i + 1 → okAt bss j) := fun j hj => by
          rcases Nat.lt_or_ge j i with h | h
          · exact hok'.out j h
          · obtain rfl : j = i := by omega
            exact hat.out.2 hgood
        obtain ⟨hg1, hg2, hg3⟩ := hgood
        have hl3 : Hid ((F (i + 1)).length = (F i).length + m) := by show _ = _; rw [hFx.out, List.length_append, ← hm'.out]
        have hl4 : Hid ((F i).length ≤ 256000000) := by show _ ≤ _; have := hlF.out; omega
        by_cases hlast : i + 1 < n
        · have hm256 : m = 256 := by have := hg3 hlast; omega
          subst hm256
          have hI : ((i : Int) < (n : Int) - 1) := by omega
          clear hg3 hg1 hg2
          go_wp2_with (first
            | (refine st_valG rfl (rn_idxSl (j := (i : Int)) rfl rfl size_sl rfl rfl (by omega) (by omega)) ?_)
            | (refine st_valG rfl (rn_cell (i := oo + (i : Int).toNat * 1) rfl rfl rfl rfl (hcell.out _ _ B.own0 (by simp))) ?_)
            | (refine st_app (ys := ys) rfl B elem_u8 rfl rfl rfl rfl (hxo'.out _ _ B.own0 (by simp)) (by have := hl4.out; have := hm'.out; omega) (by have := hl4.out; have := hm'.out; omega) ?_; clear B; intro p6 c6 w6 B; rw [← hm'.out, ← hl3.out]; rw [← hm'.out, ← hl3.out, ← hFx.out] at B))
          exact ⟨⟨i + 1, _, _, by omega, by go_num, rfl, by rw [hl3.out]; have := hlF.out; omega, hgo.out, B⟩, by simp [intOf]; omega⟩
        · have hlast' : n ≤ i + 1 := by omega
          have hI1 : ¬ ((m : Int) < 1) := by omega
          have hI2 : ¬ (256 < (m : Int)) := by omega
          have hI3 : ¬ ((i : Int) < (n : Int) - 1) := by omega
          clear hg3 hlast
          go_wp2_with (first
            | (refine st_valG rfl (rn_idxSl (j := (i : Int)) rfl rfl size_sl rfl rfl (by omega) (by omega)) ?_)
            | (refine st_valG rfl (rn_cell (i := oo + (i : Int).toNat * 1) rfl rfl rfl rfl (hcell.out _ _ B.own0 (by simp))) ?_)
            | (refine st_app (ys := ys) rfl B elem_u8 rfl rfl rfl rfl (hxo'.out _ _ B.own0 (by simp)) (by have := hl4.out; have := hm'.out; omega) (by have := hl4.out; have := hm'.out; omega) ?_; clear B; intro p6 c6 w6 B; rw [← hm'.out, ← hl3.out]; rw [← hm'.out, ← hl3.out, ← hFx.out] at B))
          exact ⟨⟨i + 1, _, _, by omega, by go_num, rfl, by rw [hl3.out]; have := hlF.out; omega, hgo.out, B⟩, by simp [intOf]; omega⟩
      · have hcode := Lib.hid (jcode_bad (hs := hs) (i := i) (by rw [hbl.out]; exact hin) (fun h => hgood (hat.out.1 h)))
        have hbytes := Lib.hid (jbytes_ne hcode.out (by decide))
        have HB := Lib.hid B.own0
        have hbadc : m < 1 ∨ 256 < m ∨ (1 ≤ m ∧ m < 256 ∧ i + 1 < n) := by omega
        clear hgood
        rcases hbadc with hb | hb | ⟨hb1, hb2, hb3⟩
        · have hI1 : (m : Int) < 1 := by omega
          go_wp2_with (first
            | (refine st_valG rfl (rn_idxSl (j := (i : Int)) rfl rfl size_sl rfl rfl (by omega) (by omega)) ?_)
            | (refine st_valG rfl (rn_cell (i := oo + (i : Int).toNat * 1) rfl rfl rfl rfl (hcell.out _ _ B.own0 (by simp))) ?_))
          go_ret2
          exact ⟨_, by rw [hcode.out]; rfl, by rw [hbytes.out]; exact BIn.nil _, HB.out⟩
        · have hI1 : ¬ ((m : Int) < 1) := by omega
          have hI2 : 256 < (m : Int) := by omega
          go_wp2_with (first
            | (refine st_valG rfl (rn_idxSl (j := (i : Int)) rfl rfl size_sl rfl rfl (by omega) (by omega)) ?_)
            | (refine st_valG rfl (rn_cell (i := oo + (i : Int).toNat * 1) rfl rfl rfl rfl (hcell.out _ _ B.own0 (by simp))) ?_))
          go_ret2
          exact ⟨_, by rw [hcode.out]; rfl, by rw [hbytes.out]; exact BIn.nil _, HB.out⟩
        · have hI1 : ¬ ((m : Int) < 1) := by omega
          have hI2 : ¬ (256 < (m : Int)) := by omega
          have hI3 : ((i : Int) < (n : Int) - 1) := by omega
          have hI4 : (m : Int) < 256 := by omega
          go_wp2_with (first
            | (refine st_valG rfl (rn_idxSl (j := (i : Int)) rfl rfl size_sl rfl rfl (by omega) (by omega)) ?_)
            | (refine st_valG rfl (rn_cell (i := oo + (i : Int).toNat * 1) rfl rfl rfl rfl (hcell.out _ _ B.own0 (by simp))) ?_))
          go_ret2
          exact ⟨_, by rw [hcode.out]; rfl, by rw [hbytes.out]; exact BIn.nil _, HB.out⟩
    · obtain rfl : i = n := by omega
      have hall : Hid (okAll bss) := fun j hj => hok'.out j (by rw [hbl.out] at hj; exact hj)
      have hcs : Hid (∀ w', Own w w' [] → Calls Try.prog 12 #[.slice p0 i c0] w' fun e w'' => ∃ r, e = .returned r ∧ OldH w'' r (sumsTo bss bss.length) ∧ Own w' w'' []) := fun w' h => by
        have := refSums_any w' _ ls (O.out.mv h) (by have := hn'.out; omega) hl'.out
        have e : sumsTo bss bss.length = sumsTo (ls.map (·.2)) ls.length := by rw [hbss'.out, List.length_map]
        rw [e]
        exact this
      have hsl : Hid ((sumsTo bss bss.length).length = i) := by show _ = _; rw [length_sumsTo, hbl.out]
      obtain ⟨ss, hss⟩ : ∃ ss, sumsTo bss bss.length = ss := ⟨_, rfl⟩
      rw [hss] at hcs hsl
      have hss' := Lib.hid hss
      clear hss
      have hFl : Hid (F i = bss.flatten) := hFn.out
      have hin2 : i ≤ 1000000 := by omega
      clear hl' O hFs hFn
      by_cases hne : i = n2
      · subst hne
        go_wp2_with (go_at_call 12; refine (hcs.out _ B.own0).mono ?_; rintro e w3 ⟨r, rfl, hr, h3⟩; obtain ⟨pr, cr, rfl⟩ := hr.shape; rw [hsl.out] at hr ⊢; have hr' := Lib.hid hr; have B2 := B.call0 h3; clear B h3 hcs hr; have B := B2; clear B2)
        have O2' : Hid (OldH w3 (.slice p2 i c2) hs) := O2.out.mv B.own0
        clear O2
        go_loopw [9] (fun v9 wr2 => ∃ j, j ≤ i ∧ v9 = .int .i64 ((j : Nat) : Int) ∧ ss.take j = hs.take j ∧ Own w3 wr2 []) (fun v9 _ => ((i : Int) - intOf v9).toNat)
        case atStart => exact ⟨0, by omega, rfl, rfl, Own.refl _⟩
        case round =>
          obtain ⟨j, hj, rfl, htk, H⟩ := hrel
          by_cases hji : j < i
          · obtain ⟨g1, hg1⟩ : ∃ g, ss[j]? = some g := ⟨_, List.getElem?_eq_getElem (by rw [hsl.out]; exact hji)⟩
            obtain ⟨g2, hg2⟩ : ∃ g, hs[j]? = some g := ⟨_, List.getElem?_eq_getElem (by have := hn2'.out; omega)⟩
            have hl1 := Lib.hid (hr'.out.el g1 (List.mem_of_getElem? hg1))
            have hl2 := Lib.hid (O2'.out.el g2 (List.mem_of_getElem? hg2))
            obtain ⟨b1, o1, e1⟩ := hr'.out.addr (by rw [hsl.out]; omega)
            obtain ⟨b2, o2, e2⟩ := O2'.out.addr (by have := hn2'.out; omega)
            subst e1 e2
            have r1 : Hid (∀ w', Own wr w' [] → ∀ k v, (u8s g1)[k]? = some v → w'.cell? ⟨b1, o1 + (j : Int).toNat * 32 + k, none⟩ = some v) := fun w' h => (hr'.out.mv (H.trans h)).row hg1
            have r2 : Hid (∀ w', Own wr w' [] → ∀ k v, (u8s g2)[k]? = some v → w'.cell? ⟨b2, o2 + (j : Int).toNat * 32 + k, none⟩ = some v) := fun w' h => (O2'.out.mv (H.trans h)).row hg2
            have hstep : Hid (ss.take (j + 1) = hs.take (j + 1) ↔ g1 = g2) := take_succ_eq htk hg1 hg2
            obtain ⟨q, hq⟩ : ∃ q, decide (g1 = g2) = q := ⟨_, rfl⟩
            have eS : ∀ w, (Op.equalIn 10000 35 (.agg (u8s g1).toArray) (.agg (u8s g2).toArray)).run Try.prog w = .ok q w := fun w => by rw [eqHash w g1 g2 hl1.out hl2.out, hq]
            have hq' := Lib.hid hq
            clear hg1 hg2 htk hq
            have hib : j < 1000000 := by omega
            go_wp2_with fail
            refine region_grow 9 (by kernel_rfl) (by kernel_rfl) (by kernel_rfl) [.val (.slice (some ⟨b1, o1, none⟩) i cr), .val (.int .i64 j), .val (.pointer (some ⟨b1, o1 + (j : Int).toNat * 32, none⟩)), .val (.agg (u8s g1).toArray), .val (.slice (some ⟨b2, o2, none⟩) i c2), .val (.int .i64 j), .val (.pointer (some ⟨b2, o2 + (j : Int).toNat * 32, none⟩)), .val (.agg (u8s g2).toArray), .val (.bool (!q))] rfl ?_
            try go_frame
            repeat (first
              | (refine sp_run (v := .pointer (some ⟨b1, o1 + (j : Int).toNat * 32, none⟩)) rfl (fun w' hw' _ => rn_idxSl (j := (j : Int)) rfl rfl size_hash rfl rfl (by omega) (by omega)) ?_; go_frame)
              | (refine sp_run (v := .agg (u8s g1).toArray) rfl (fun w' hw' _ => rn_cells rfl rfl rfl rfl (size_hash32 hl1.out) (r1.out w' hw')) ?_; go_frame)
              | (refine sp_run (v := .pointer (some ⟨b2, o2 + (j : Int).toNat * 32, none⟩)) rfl (fun w' hw' _ => rn_idxSl (j := (j : Int)) rfl rfl size_hash rfl rfl (by omega) (by omega)) ?_; go_frame)
              | (refine sp_run (v := .agg (u8s g2).toArray) rfl (fun w' hw' _ => rn_cells rfl rfl rfl rfl (size_hash32 hl2.out) (r2.out w' hw')) ?_; go_frame)
              | (refine sp_val (fun w' hw' hF => ?_) ⟨_, rfl, Nat.le_of_ble_eq_true rfl⟩ ?_
                 · go_big_quiet_step (fail)
                   exact rfl
                 try go_frame))
            refine sp_nil ?_
            intro w' hw' hF
            have H' := H.trans hw'
            clear H hw' hF r1 r2 eS
            simp only [List.drop_succ_cons, List.drop_zero]
            cases q with
            | true =>
              go_wp2_with fail
              exact ⟨⟨j + 1, by omega, by go_num, hstep.out.2 (of_decide_eq_true hq'.out), H'⟩, by simp [intOf]; omega⟩
            | false =>
              have hcode := Lib.hid (jcode_sum (hs := hs) hall.out (by
                rw [hss'.out]
                intro e
                exact absurd (hstep.out.1 (by rw [e])) (of_decide_eq_false hq'.out)))
              have hbytes := Lib.hid (jbytes_ne hcode.out (by decide))
              have g3 := Lib.hid (B.call0 H').own0
              clear B H'
              go_wp2_with fail
              go_ret2
              exact ⟨_, by rw [hcode.out]; rfl, by rw [hbytes.out]; exact BIn.nil _, g3.out⟩
          · obtain rfl : j = i := by omega
            have hcode := Lib.hid (jcode_ok (hs := hs) hall.out (by
              rw [hss'.out]
              rw [List.take_of_length_le (by rw [hsl.out]; exact Nat.le_refl _), List.take_of_length_le (by have := hn2'.out; omega)] at htk
              exact htk))
            have hbytes := Lib.hid (jbytes_ok hcode.out)
            have B2 := B.call0 H
            have g1 := Lib.hid B2.bytesAt
            have g2 := Lib.hid B2.lt
            have g3 := Lib.hid B2.own0
            clear B B2 H htk
            go_wp2_with fail
            go_ret2
            exact ⟨_, by rw [hcode.out]; rfl, by rw [hbytes.out, ← hFl.out]; exact ⟨⟨_, _, rfl⟩, g1.out, g2.out⟩, g3.out⟩
      · have hcode := Lib.hid (jcode_sum (hs := hs) hall.out (by
          rw [hss'.out]
          intro e
          exact hne (by rw [hn2'.out, ← e, hsl.out])))
        have hbytes := Lib.hid (jbytes_ne hcode.out (by decide))
        have hne' : ¬ ((i : Int) = (n2 : Int)) := by omega
        clear hne
        go_wp2_with (go_at_call 12; refine (hcs.out _ B.own0).mono ?_; rintro e w3 ⟨r, rfl, hr, h3⟩; obtain ⟨pr, cr, rfl⟩ := hr.shape; rw [hsl.out]; have B2 := B.call0 h3; clear B h3 hcs hr; have B := B2; clear B2)
        have g3 := Lib.hid B.own0
        clear B
        go_ret2
        exact ⟨_, by rw [hcode.out]; rfl, by rw [hbytes.out]; exact BIn.nil _, g3.out⟩

end Go.Proofs.Ytjcnhpnadfhjaaa
