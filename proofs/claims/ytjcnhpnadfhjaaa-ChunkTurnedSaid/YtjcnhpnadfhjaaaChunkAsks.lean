/- chirographlaw20.ChunkAsks: the walk. -/
import Derived.Test.YtjcnhpnadfhjaaaChk
import Derived.Test.YtjcnhpnadfhjaaaOpenH
namespace Go.Proofs.Ytjcnhpnadfhjaaa
open Go.RowKit

theorem isBytes_iff {xs : List Int} : IsBytes xs ↔ ∀ x ∈ xs, 0 ≤ x ∧ x < 256 := by
  constructor
  · intro h x hx
    obtain ⟨i, hi, rfl⟩ := List.getElem_of_mem hx
    have := h i hi
    simpa [hi] using this
  · intro h i hi
    have := h xs[i] (List.getElem_mem hi)
    simpa [hi] using this

theorem isBytes_pc {bs : List Int} (h : IsBytes bs) (i : Nat) : IsBytes (pc bs i) := range_sub h _ _
theorem isBytes_nil : IsBytes [] := fun i hi => by simp at hi
theorem isBytes_flatten {bss : List (List Int)} (h : ∀ bs ∈ bss, IsBytes bs) : IsBytes bss.flatten := by
  rw [isBytes_iff]
  intro x hx
  obtain ⟨bs, h1, h2⟩ := List.mem_flatten.1 hx
  exact isBytes_iff.1 (h bs h1) x h2
theorem isBytes_jbytes {bss hs : List (List Int)} (h : ∀ bs ∈ bss, IsBytes bs) : IsBytes (jbytes bss hs) := by
  unfold jbytes
  split
  · exact isBytes_flatten h
  · exact isBytes_nil
theorem OldL.isBytes {w : World} {v : Value} {ls : List (Value × List Int)} (h : OldL w v ls) : ∀ bs ∈ ls.map (·.2), IsBytes bs := by
  intro bs hbs
  obtain ⟨x, hx, rfl⟩ := List.mem_map.1 hbs
  obtain ⟨i, hi, rfl⟩ := List.getElem_of_mem hx
  exact (h.el i _ (List.getElem?_eq_getElem hi)).2.2
theorem BIn.same {w : World} {v1 v2 : Value} {xs : List Int} (h1 : BIn xs w v1) (h2 : BIn xs w v2) (h : IsBytes xs) :
    Calls Try.prog 13 #[v1, v2] w fun e w' => e = .returned (.bool true) ∧ Own w w' [] := by
  have := same_any w v1 v2 xs xs h1.2.1 h2.2.1 h h
  rwa [decide_eq_true rfl] at this

set_option maxRecDepth 100000 in
set_option maxHeartbeats 4000000 in
theorem chunkAsks_row (w : World) (v0 : Value) (bs : List Int) (hv0 : BytesAt w v0 bs) (hlt0 : ∀ k, blk v0 = some k → k < w.heap.size) (hr0 : ∀ i, i < bs.length → 0 ≤ bs[i]?.getD 0 ∧ bs[i]?.getD 0 < 256)
    (v1 : Value) (ls : List (Value × List Int)) (hL : OldL w v1 ls) (v2 : Value) (hs : List (List Int)) (hH : OldH w v2 hs) :
    Calls Try.prog 4 #[v0, v1, v2] w fun e w' => e = .returned (.bool true) ∧ Own w w' [] := by
  have H := Own.refl w
  have hO : Old w v0 bs := ⟨hv0, hlt0⟩
  obtain ⟨p0, c0, rfl⟩ := hO.shape
  obtain ⟨p1, c1, rfl⟩ := hL.addr'
  obtain ⟨p2, c2, rfl⟩ := hH.shape
  obtain ⟨n0, hn0⟩ : ∃ n, n = bs.length := ⟨_, rfl⟩
  obtain ⟨n1, hn1⟩ : ∃ n, n = ls.length := ⟨_, rfl⟩
  obtain ⟨n2, hn2⟩ : ∃ n, n = hs.length := ⟨_, rfl⟩
  rw [← hn0] at hO ⊢
  rw [← hn1] at hL ⊢
  rw [← hn2] at hH ⊢
  have O := Lib.hid hO
  have OL := Lib.hid hL
  have OH := Lib.hid hH
  have hr0' : Hid (IsBytes bs) := hr0
  have hn0' := Lib.hid hn0
  have hn1' := Lib.hid hn1
  have hn2' := Lib.hid hn2
  clear hv0 hlt0 hr0 hO hL hH hn0 hn1 hn2
  by_cases hbig : n0 ≤ 1500 ∧ n1 ≤ 6 ∧ n2 ≤ 20
  · obtain ⟨hb0, hb1, hb2⟩ := hbig
    go_enter Try.func4, Try.ntmps4
    go_wp2_with fail
    go_loopw [6, 7] (fun _ v7 wr => ∃ i, i ≤ n1 ∧ v7 = .int .i64 ((i : Nat) : Int) ∧ (∀ j x, j < i → ls[j]? = some x → x.2.length ≤ 300) ∧ Own w wr []) (fun _ v7 _ => ((n1 : Int) - intOf v7).toNat)
    case atStart => exact ⟨0, by omega, rfl, fun j x hj => by omega, H⟩
    case round =>
      clear H
      obtain ⟨i, hi, rfl, hsm, H⟩ := hrel
      have hsm' := Lib.hid hsm
      clear hsm
      by_cases hin : i < n1
      · obtain ⟨x, hx, hxo, ⟨px, cx, hxs⟩, _⟩ := OL.out.get (i := i) (by have := hn1'.out; omega)
        obtain ⟨og, oo, hp0⟩ := OL.out.addr (by have := hn1'.out; omega)
        subst hp0
        have hcell : Hid (∀ w1, Own w w1 [] → w1.cell? ⟨og, oo + (i : Int).toNat * 1, none⟩ = some (.slice px x.2.length cx)) := fun w1 h1 => by rw [← hxs]; exact OL.out.cellAt h1 (by simp) (by simpa using hx)
        obtain ⟨m, hm⟩ : ∃ m, m = x.2.length := ⟨_, rfl⟩
        rw [← hm] at hcell
        by_cases hm3 : m ≤ 300
        · have hsm2 : Hid (∀ j x, j < i + 1 → ls[j]? = some x → x.2.length ≤ 300) := fun j y hj hy => by
            rcases Nat.lt_or_ge j i with h | h
            · exact hsm'.out j y h hy
            · obtain rfl : j = i := by omega
              rw [hx] at hy
              cases hy
              omega
          clear hx hxo hxs hm
          go_wp2_with (first
            | (refine st_val rfl (rn_idxSl (j := (i : Int)) rfl rfl size_sl rfl rfl (by omega) (by omega)) ?_)
            | (refine st_val rfl (rn_cell (i := oo + (i : Int).toNat * 1) rfl rfl rfl rfl (hcell.out _ H)) ?_))
          exact ⟨⟨i + 1, by omega, by go_num, hsm2.out, H⟩, by simp [intOf]; omega⟩
        · have hm4 : 300 < m := by omega
          clear hx hxo hxs hm hm3
          go_wp2_with (first
            | (refine st_val rfl (rn_idxSl (j := (i : Int)) rfl rfl size_sl rfl rfl (by omega) (by omega)) ?_)
            | (refine st_val rfl (rn_cell (i := oo + (i : Int).toNat * 1) rfl rfl rfl rfl (hcell.out _ H)) ?_)
            | (go_at_call 9; refine (told_any _).mono ?_; rintro e w3 ⟨rfl, h3⟩; have H2 := H.call0 h3; clear H h3; have H := H2; clear H2))
          have H' := Lib.hid H
          go_ret
          exact ⟨rfl, H'.out⟩
      · obtain rfl : i = n1 := by omega
        have hO' := Lib.hid (fun (w' : World) (h : Own w w' []) => O.out.mv h (by simp))
        have hb0' : Hid (bs.length ≤ 1500) := by show _ ≤ _; rw [← hn0'.out]; exact hb0
        obtain ⟨k, hk⟩ : ∃ k, k = np bs.length := ⟨_, rfl⟩
        have hk6 : Hid (k ≤ 6) := by show _ ≤ _; have := hb0'.out; rw [hk]; unfold np; omega
        obtain ⟨ss, hss⟩ : ∃ ss, ss = sumsTo (ls.map (·.2)) ls.length := ⟨_, rfl⟩
        have hsl : Hid (ss.length = i) := by show _ = _; rw [hss, length_sumsTo, hn1'.out]
        have hsp : Hid (∀ w', Own w w' [] → Calls Try.prog 10 #[.slice p0 n0 c0] w' fun e w'' => ∃ pp cp lp, e = .returned (.slice pp k cp) ∧ OldL w'' (.slice pp k cp) lp ∧ lp.map (·.2) = pcs bs k ∧ Own w' w'' []) := fun w' h => by
          refine (split_any w' _ bs (hO'.out w' h) hr0'.out (by have := hb0'.out; omega)).mono ?_
          rintro e w3 ⟨r, lp, rfl, h1, h2, h3⟩
          obtain ⟨pp, cp, rfl⟩ := h1.addr'
          have h4 : lp.length = k := by have h := congrArg List.length h2; rw [List.length_map, length_pcs] at h; omega
          rw [h4] at h1 ⊢
          rw [← hk] at h2
          exact ⟨pp, cp, lp, rfl, h1, h2, h3⟩
        have hsq : Hid (∀ w', Own w w' [] → Calls Try.prog 11 #[.slice p0 n0 c0] w' fun e w'' => ∃ pp cp lp, e = .returned (.slice pp k cp) ∧ OldL w'' (.slice pp k cp) lp ∧ lp.map (·.2) = pcs bs k ∧ Own w' w'' []) := fun w' h => by
          refine (refSplit_any w' _ bs (hO'.out w' h) hr0'.out (by have := hb0'.out; omega)).mono ?_
          rintro e w3 ⟨r, lp, rfl, h1, h2, h3⟩
          obtain ⟨pp, cp, rfl⟩ := h1.addr'
          have h4 : lp.length = k := by have h := congrArg List.length h2; rw [List.length_map, length_pcs] at h; omega
          rw [h4] at h1 ⊢
          rw [← hk] at h2
          exact ⟨pp, cp, lp, rfl, h1, h2, h3⟩
        have hcs : Hid (∀ w', Own w w' [] → Calls Try.prog 8 #[.slice p1 i c1] w' fun e w'' => ∃ pp cp, e = .returned (.slice pp i cp) ∧ OldH w'' (.slice pp i cp) ss ∧ Own w' w'' []) := fun w' h => by
          refine (csums_any w' _ ls (OL.out.mv h) (by have := hn1'.out; omega) (fun j x hx => by have := hsm'.out j x (by have := (List.getElem?_eq_some_iff.1 hx).1; have := hn1'.out; omega) hx; omega)).mono ?_
          rintro e w3 ⟨r, rfl, h1, h2⟩
          obtain ⟨pp, cp, rfl⟩ := h1.shape
          rw [← hss] at h1 ⊢
          rw [hsl.out] at h1 ⊢
          exact ⟨pp, cp, rfl, h1, h2⟩
        have hrs : Hid (∀ w', Own w w' [] → Calls Try.prog 12 #[.slice p1 i c1] w' fun e w'' => ∃ pp cp, e = .returned (.slice pp i cp) ∧ OldH w'' (.slice pp i cp) ss ∧ Own w' w'' []) := fun w' h => by
          refine (refSums_any w' _ ls (OL.out.mv h) (by have := hn1'.out; omega) (fun j x hx => by have := hsm'.out j x (by have := (List.getElem?_eq_some_iff.1 hx).1; have := hn1'.out; omega) hx; omega)).mono ?_
          rintro e w3 ⟨r, rfl, h1, h2⟩
          obtain ⟨pp, cp, rfl⟩ := h1.shape
          rw [← hss] at h1 ⊢
          rw [hsl.out] at h1 ⊢
          exact ⟨pp, cp, rfl, h1, h2⟩
        have hmap := Lib.hid (OL.out.isBytes)
        have hj : Hid (∀ ks : List (List Int), ∃ (c : Int) (xs : List Int), IsBytes xs ∧ ∀ w' u, Own w w' [] → OldH w' u ks →
            (Calls Try.prog 7 #[.slice p1 i c1, u] w' fun e w'' => ∃ r, e = .returned (.tuple #[r, .int .i64 c]) ∧ BIn xs w'' r ∧ Own w' w'' []) ∧
            (Calls Try.prog 14 #[.slice p1 i c1, u] w' fun e w'' => ∃ r, e = .returned (.tuple #[r, .int .i64 c]) ∧ BIn xs w'' r ∧ Own w' w'' [])) := fun ks => by
          have hl : ∀ (j : Nat) (x : Value × List Int), ls[j]? = some x → x.2.length ≤ 300 := fun j x hx => hsm'.out j x (by have := (List.getElem?_eq_some_iff.1 hx).1; have := hn1'.out; omega) hx
          exact ⟨jcode (ls.map (·.2)) ks, jbytes (ls.map (·.2)) ks, isBytes_jbytes hmap.out, fun w' u h hu =>
            ⟨join_any w' _ u ls ks (OL.out.mv h) hu (by have := hn1'.out; omega) (fun j x hx => by have := hl j x hx; omega), refJoin_any w' _ u ls ks (OL.out.mv h) hu (by have := hn1'.out; omega) (fun j x hx => by have := hl j x hx; omega)⟩⟩
        obtain ⟨d1, xs1, g1, j1⟩ := hj.out hs
        obtain ⟨d2, xs2, g2, j2⟩ := hj.out ss
        have g1' := Lib.hid g1
        have g2' := Lib.hid g2
        have j1' := Lib.hid j1
        have j2' := Lib.hid j2
        have OH' := Lib.hid (fun (w' : World) (h : Own w w' []) => OH.out.mv h)
        clear hk hss hj g1 g2 j1 j2 hmap OH O OL hsm' hn0' hn2' hO'
        go_wp2_with (first
          | (go_at_call 10; refine (hsp.out _ H).mono ?_; rintro e w2 ⟨pp, cp, lp, rfl, hLp, hmp, h3⟩; have H2 := H.call0 h3; clear H h3 hsp; have H := H2; clear H2; have hmp' := Lib.hid hmp; clear hmp)
          | (go_at_call 11; refine (hsq.out _ H).mono ?_; rintro e w3 ⟨pq, cq, lq, rfl, hLq, hmq, h3⟩; have hLp2 := hLp.mv h3; clear hLp; have hLp := hLp2; clear hLp2; have H2 := H.call0 h3; clear H h3 hsq; have H := H2; clear H2; have hmq' := Lib.hid hmq; clear hmq)
          | (go_at_call 8; refine (hcs.out _ H).mono ?_; rintro e w4 ⟨ps, cs, rfl, hHs, h3⟩; have hLp2 := hLp.mv h3; clear hLp; have hLp := hLp2; clear hLp2; have hLq2 := hLq.mv h3; clear hLq; have hLq := hLq2; clear hLq2; have H2 := H.call0 h3; clear H h3 hcs; have H := H2; clear H2)
          | (go_at_call 12; refine (hrs.out _ H).mono ?_; rintro e w5 ⟨pt, ct, rfl, hHt, h3⟩; have hHs2 := hHs.mv h3; clear hHs; have hHs := hHs2; clear hHs2; have hLp2 := hLp.mv h3; clear hLp; have hLp := hLp2; clear hLp2; have hLq2 := hLq.mv h3; clear hLq; have hLq := hLq2; clear hLq2; have H2 := H.call0 h3; clear H h3 hrs; have H := H2; clear H2))
        have LP := Lib.hid hLp
        have LQ := Lib.hid hLq
        have HS := Lib.hid hHs
        have HT := Lib.hid hHt
        have H4 := Lib.hid H
        clear hLp hLq hHs hHt H
        have hlp : Hid (lp.length = k) := by show _ = _; have h := congrArg List.length hmp'.out; rw [List.length_map, length_pcs] at h; exact h
        have hlq : Hid (lq.length = k) := by show _ = _; have h := congrArg List.length hmq'.out; rw [List.length_map, length_pcs] at h; exact h
        have H := Own.refl w5
        go_loopw [6, 12] (fun _ v12 wr => ∃ i, i ≤ k ∧ v12 = .int .i64 ((i : Nat) : Int) ∧ Own w5 wr []) (fun _ v12 _ => ((k : Int) - intOf v12).toNat)
        case atStart => exact ⟨0, by omega, rfl, H⟩
        case round =>
          clear H
          obtain ⟨t, ht, rfl, H⟩ := hrel
          by_cases htk : t < k
          · have hk7 : k ≤ 6 := hk6.out
            obtain ⟨x, hx, hxo, ⟨px, cx, hxs⟩, hxx⟩ := LP.out.get (i := t) (by have := hlp.out; omega)
            obtain ⟨y, hy, hyo, ⟨py, cy, hys⟩, hyy⟩ := LQ.out.get (i := t) (by have := hlq.out; omega)
            rw [hmp'.out, pcs_get htk] at hxx
            rw [hmq'.out, pcs_get htk] at hyy
            obtain ⟨b1, o1, e1⟩ := LP.out.addr (by have := hlp.out; omega)
            obtain ⟨b2, o2, e2⟩ := LQ.out.addr (by have := hlq.out; omega)
            subst e1 e2
            have hc1 : Hid (∀ w1, Own w5 w1 [] → w1.cell? ⟨b1, o1 + (t : Int).toNat * 1, none⟩ = some (.slice px x.2.length cx)) := fun w1 h1 => by rw [← hxs]; exact LP.out.cellAt h1 (by simp) (by simpa using hx)
            have hc2 : Hid (∀ w1, Own w5 w1 [] → w1.cell? ⟨b2, o2 + (t : Int).toNat * 1, none⟩ = some (.slice py y.2.length cy)) := fun w1 h1 => by rw [← hys]; exact LQ.out.cellAt h1 (by simp) (by simpa using hy)
            have hsame : Hid (∀ w', Own wr w' [] → Calls Try.prog 13 #[.slice px x.2.length cx, .slice py y.2.length cy] w' fun e w'' => e = .returned (.bool true) ∧ Own w' w'' []) := fun w' h => by
              have := same_any w' x.1 y.1 _ _ (hxo.at (H.trans h) (by simp)) (hyo.at (H.trans h) (by simp)) (by rw [← hxx]; exact isBytes_pc hr0'.out t) (by rw [← hyy]; exact isBytes_pc hr0'.out t)
              rw [← hxx, ← hyy, decide_eq_true rfl] at this
              rw [← hxs, ← hys]
              exact this
            obtain ⟨mx, hmx⟩ : ∃ m, m = x.2.length := ⟨_, rfl⟩
            obtain ⟨my, hmy⟩ : ∃ m, m = y.2.length := ⟨_, rfl⟩
            rw [← hmx] at hc1 hsame
            rw [← hmy] at hc2 hsame
            have hwr := Lib.hid (fun (w' : World) (h : Own wr w' []) => H.trans h)
            clear hx hxo hxs hxx hy hyo hys hyy hmx hmy
            go_wp2_with fail
            refine region_grow 10 (by kernel_rfl) (by kernel_rfl) (by kernel_rfl) [.val (.slice (some ⟨b1, o1, none⟩) k cp), .val (.int .i64 t), .val (.pointer (some ⟨b1, o1 + (t : Int).toNat * 1, none⟩)), .val (.slice px mx cx), .val (.slice (some ⟨b2, o2, none⟩) k cq), .val (.int .i64 t), .val (.pointer (some ⟨b2, o2 + (t : Int).toNat * 1, none⟩)), .val (.slice py my cy), .val (.bool true), .val (.bool false)] rfl ?_
            try go_frame
            repeat (first
              | (refine sp_run (v := .pointer (some ⟨b1, o1 + (t : Int).toNat * 1, none⟩)) rfl (fun w' hw' _ => rn_idxSl (j := (t : Int)) rfl rfl size_sl rfl rfl (by omega) (by omega)) ?_; go_frame)
              | (refine sp_run (v := .slice px mx cx) rfl (fun w' hw' _ => rn_cell rfl rfl rfl rfl (hc1.out w' (hwr.out w' hw'))) ?_; go_frame)
              | (refine sp_run (v := .pointer (some ⟨b2, o2 + (t : Int).toNat * 1, none⟩)) rfl (fun w' hw' _ => rn_idxSl (j := (t : Int)) rfl rfl size_sl rfl rfl (by omega) (by omega)) ?_; go_frame)
              | (refine sp_run (v := .slice py my cy) rfl (fun w' hw' _ => rn_cell rfl rfl rfl rfl (hc2.out w' (hwr.out w' hw'))) ?_; go_frame)
              | (refine sp_callN (args := #[.slice px mx cx, .slice py my cy]) rfl rfl (by simp [Act.eval]) Try.func13 (by kernel_rfl) (by kernel_rfl) (fun w' hw' _ => hsame.out w' hw') ?_; go_frame)
              | (refine sp_val (fun w' hw' hF => ?_) ⟨_, rfl, Nat.le_of_ble_eq_true rfl⟩ ?_
                 · go_big_quiet_step (fail)
                   exact rfl
                 try go_frame))
            refine sp_nil ?_
            intro w' hw' _
            have H2 := hwr.out _ hw'
            clear H hw' hc1 hc2 hsame hwr
            simp only [List.drop_succ_cons, List.drop_zero]
            go_wp2_with fail
            exact ⟨⟨t + 1, by omega, by go_num, H2⟩, by simp [intOf]; omega⟩
          · obtain rfl : t = k := by omega
            have H9 := Lib.hid H
            clear H LP LQ hlp hlq hmp' hmq'
            have H := H9.out
            go_wp2_with fail
            go_loopw [6, 13] (fun _ v13 wr => ∃ j, j ≤ i ∧ v13 = .int .i64 ((j : Nat) : Int) ∧ Own w5 wr []) (fun _ v13 _ => ((i : Int) - intOf v13).toNat)
            case atStart => exact ⟨0, by omega, rfl, H⟩
            case round =>
              clear H H9
              obtain ⟨j, hji, rfl, H⟩ := hrel
              by_cases hj : j < i
              · obtain ⟨g, hg⟩ : ∃ g, ss[j]? = some g := ⟨_, List.getElem?_eq_getElem (by have := hsl.out; omega)⟩
                have hl1 := Lib.hid (HS.out.el g (List.mem_of_getElem? hg))
                obtain ⟨b1, o1, e1⟩ := HS.out.addr (by have := hsl.out; omega)
                obtain ⟨b2, o2, e2⟩ := HT.out.addr (by have := hsl.out; omega)
                subst e1 e2
                have hwr := Lib.hid H
                have r1 : Hid (∀ w', Own wr w' [] → ∀ q v, (u8s g)[q]? = some v → w'.cell? ⟨b1, o1 + (j : Int).toNat * 32 + q, none⟩ = some v) := fun w' h => (HS.out.mv (hwr.out.trans h)).row hg
                have r2 : Hid (∀ w', Own wr w' [] → ∀ q v, (u8s g)[q]? = some v → w'.cell? ⟨b2, o2 + (j : Int).toNat * 32 + q, none⟩ = some v) := fun w' h => (HT.out.mv (hwr.out.trans h)).row hg
                have eS : ∀ w, (Op.equalIn 10000 35 (.agg (u8s g).toArray) (.agg (u8s g).toArray)).run Try.prog w = .ok true w := fun w => by rw [eqHash w g g hl1.out hl1.out, decide_eq_true rfl]
                clear hg H
                go_wp2_with fail
                refine region_grow 9 (by kernel_rfl) (by kernel_rfl) (by kernel_rfl) [.val (.slice (some ⟨b1, o1, none⟩) i cs), .val (.int .i64 j), .val (.pointer (some ⟨b1, o1 + (j : Int).toNat * 32, none⟩)), .val (.agg (u8s g).toArray), .val (.slice (some ⟨b2, o2, none⟩) i ct), .val (.int .i64 j), .val (.pointer (some ⟨b2, o2 + (j : Int).toNat * 32, none⟩)), .val (.agg (u8s g).toArray), .val (.bool false)] rfl ?_
                try go_frame
                repeat (first
                  | (refine sp_run (v := .pointer (some ⟨b1, o1 + (j : Int).toNat * 32, none⟩)) rfl (fun w' hw' _ => rn_idxSl (j := (j : Int)) rfl rfl size_hash rfl rfl (by omega) (by omega)) ?_; go_frame)
                  | (refine sp_run (v := .agg (u8s g).toArray) rfl (fun w' hw' _ => rn_cells rfl rfl rfl rfl (size_hash32 hl1.out) (r1.out w' hw')) ?_; go_frame)
                  | (refine sp_run (v := .pointer (some ⟨b2, o2 + (j : Int).toNat * 32, none⟩)) rfl (fun w' hw' _ => rn_idxSl (j := (j : Int)) rfl rfl size_hash rfl rfl (by omega) (by omega)) ?_; go_frame)
                  | (refine sp_run (v := .agg (u8s g).toArray) rfl (fun w' hw' _ => rn_cells rfl rfl rfl rfl (size_hash32 hl1.out) (r2.out w' hw')) ?_; go_frame)
                  | (refine sp_val (fun w' hw' hF => ?_) ⟨_, rfl, Nat.le_of_ble_eq_true rfl⟩ ?_
                     · go_big_quiet_step (fail)
                       exact rfl
                     try go_frame))
                refine sp_nil ?_
                intro w' hw' _
                have H2 := hwr.out.trans hw'
                clear hw' r1 r2 eS hwr
                simp only [List.drop_succ_cons, List.drop_zero]
                go_wp2_with fail
                exact ⟨⟨j + 1, by omega, by go_num, H2⟩, by simp [intOf]; omega⟩
              · obtain rfl : j = i := by omega
                have JA1 : Hid (∀ w', Own w5 w' [] → Calls Try.prog 7 #[.slice p1 j c1, .slice p2 n2 c2] w' fun e w'' => ∃ r, e = .returned (.tuple #[r, .int .i64 d1]) ∧ BIn xs1 w'' r ∧ Own w' w'' []) := fun w' h => (j1'.out w' _ (H4.out.trans h) (OH'.out w' (H4.out.trans h))).1
                have JA2 : Hid (∀ w', Own w5 w' [] → Calls Try.prog 14 #[.slice p1 j c1, .slice p2 n2 c2] w' fun e w'' => ∃ r, e = .returned (.tuple #[r, .int .i64 d1]) ∧ BIn xs1 w'' r ∧ Own w' w'' []) := fun w' h => (j1'.out w' _ (H4.out.trans h) (OH'.out w' (H4.out.trans h))).2
                have JB1 : Hid (∀ w', Own w5 w' [] → Calls Try.prog 7 #[.slice p1 j c1, .slice pt j ct] w' fun e w'' => ∃ r, e = .returned (.tuple #[r, .int .i64 d2]) ∧ BIn xs2 w'' r ∧ Own w' w'' []) := fun w' h => (j2'.out w' _ (H4.out.trans h) (HT.out.mv h)).1
                have JB2 : Hid (∀ w', Own w5 w' [] → Calls Try.prog 14 #[.slice p1 j c1, .slice pt j ct] w' fun e w'' => ∃ r, e = .returned (.tuple #[r, .int .i64 d2]) ∧ BIn xs2 w'' r ∧ Own w' w'' []) := fun w' h => (j2'.out w' _ (H4.out.trans h) (HT.out.mv h)).2
                clear j1' j2' HS HT hsl
                have tok1 : True := trivial
                go_wp2_with (first
                  | (clear tok1; go_at_call 7; refine (JA1.out _ H).mono ?_; rintro e w6 ⟨x1, rfl, B1, h3⟩; have H2 := H.trans h3; clear H h3 JA1; have H := H2; clear H2; have tok2 : True := trivial)
                  | (clear tok2; go_at_call 14; refine (JA2.out _ H).mono ?_; rintro e w7 ⟨x2, rfl, B2, h3⟩; have B12 := (BIn.mono _) _ _ _ h3 B1; clear B1; have B1 := B12; clear B12; have H2 := H.trans h3; clear H h3 JA2; have H := H2; clear H2; have tok3 : True := trivial)
                  | (clear tok3; go_at_call 7; refine (JB1.out _ H).mono ?_; rintro e w8 ⟨x3, rfl, B3, h3⟩; have B12 := (BIn.mono _) _ _ _ h3 B1; clear B1; have B1 := B12; clear B12; have B22 := (BIn.mono _) _ _ _ h3 B2; clear B2; have B2 := B22; clear B22; have H2 := H.trans h3; clear H h3 JB1; have H := H2; clear H2; have tok4 : True := trivial)
                  | (clear tok4; go_at_call 14; refine (JB2.out _ H).mono ?_; rintro e w9 ⟨x4, rfl, B4, h3⟩; have B12 := (BIn.mono _) _ _ _ h3 B1; clear B1; have B1 := B12; clear B12; have B22 := (BIn.mono _) _ _ _ h3 B2; clear B2; have B2 := B22; clear B22; have B32 := (BIn.mono _) _ _ _ h3 B3; clear B3; have B3 := B32; clear B32; have H2 := H.trans h3; clear H h3 JB2; have H := H2; clear H2; have tok5 : True := trivial)
                  | (clear tok5; go_at_call 9; refine (told_any _).mono ?_; rintro e w10 ⟨rfl, h3⟩; have B12 := (BIn.mono _) _ _ _ h3 B1; clear B1; have B1 := B12; clear B12; have B22 := (BIn.mono _) _ _ _ h3 B2; clear B2; have B2 := B22; clear B22; have B32 := (BIn.mono _) _ _ _ h3 B3; clear B3; have B3 := B32; clear B32; have B42 := (BIn.mono _) _ _ _ h3 B4; clear B4; have B4 := B42; clear B42; have H2 := H.trans h3; clear H h3; have H := H2; clear H2; have tok6 : True := trivial)
                  | (clear tok6; go_at_call 13; refine (B1.same B2 g1'.out).mono ?_; rintro e w11 ⟨rfl, h3⟩; clear B1 B2; have B32 := (BIn.mono _) _ _ _ h3 B3; clear B3; have B3 := B32; clear B32; have B42 := (BIn.mono _) _ _ _ h3 B4; clear B4; have B4 := B42; clear B42; have H2 := H.trans h3; clear H h3; have H := H2; clear H2; have tok7 : True := trivial)
                  | (clear tok7; go_at_call 13; refine (B3.same B4 g2'.out).mono ?_; rintro e w12 ⟨rfl, h3⟩; clear B3 B4; have H2 := H.trans h3; clear H h3; have H := H2; clear H2))
                have H' := Lib.hid (H4.out.trans H)
                go_ret
                exact ⟨rfl, H'.out⟩
  · have hbig' : 1500 < n0 ∨ (n0 ≤ 1500 ∧ 6 < n1) ∨ (n0 ≤ 1500 ∧ n1 ≤ 6 ∧ 20 < n2) := by omega
    clear hbig
    rcases hbig' with h1 | ⟨h1, h2⟩ | ⟨h1, h2, h3⟩
    all_goals
      go_enter Try.func4, Try.ntmps4
      go_wp2_with (go_at_call 9; refine (told_any _).mono ?_; rintro e w3 ⟨rfl, h3⟩; have H2 := H.call0 h3; clear H h3; have H := H2; clear H2)
      have H' := Lib.hid H
      go_ret
      exact ⟨rfl, H'.out⟩

end Go.Proofs.Ytjcnhpnadfhjaaa
