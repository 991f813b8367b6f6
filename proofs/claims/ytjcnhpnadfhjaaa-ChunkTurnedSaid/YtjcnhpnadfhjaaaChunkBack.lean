/- chirographlaw20.ChunkBack: the walk. -/
import Derived.Test.YtjcnhpnadfhjaaaChunkAsks
import Derived.Test.YtjcnhpnadfhjaaaSwap
namespace Go.Proofs.Ytjcnhpnadfhjaaa
open Go.RowKit

theorem jcode_tail {bs : List Int} {k : Nat} (hk : k = np bs.length) (h1 : 1 ≤ k) : jcode ((pcs bs k).drop 1) (sumsTo (pcs bs k) k) = 8 := by
  refine jcode_sum (fun i hi => ?_) (fun e => ?_)
  · rw [List.length_drop, length_pcs] at hi
    have h2 : okAt (pcs bs k) (i + 1) := by rw [hk]; exact okAll_pcs bs (i + 1) (by rw [length_pcs]; omega)
    unfold okAt at h2 ⊢
    have e : ((pcs bs k).drop 1)[i]?.getD [] = (pcs bs k)[i + 1]?.getD [] := by rw [List.getElem?_drop, Nat.add_comm]
    rw [e, List.length_drop]
    exact ⟨h2.1, h2.2.1, fun h => h2.2.2 (by omega)⟩
  · have := congrArg List.length e
    rw [length_sumsTo, length_sumsTo, List.length_drop, length_pcs] at this
    omega

theorem pieces_get {ls : List (Value × List Int)} {bs : List Int} {k : Nat} (h : ls.map (·.2) = pcs bs k) : ∀ (i : Nat) (x : Value × List Int), ls[i]? = some x → i < k ∧ x.2 = pc bs i := by
  intro i x hx
  have hi : i < k := by
    have h1 := congrArg List.length h
    rw [List.length_map, length_pcs] at h1
    have := (List.getElem?_eq_some_iff.1 hx).1
    omega
  have h2 : (ls.map (·.2))[i]?.getD [] = x.2 := by simp [hx]
  rw [h, pcs_get hi] at h2
  exact ⟨hi, h2.symm⟩

set_option maxRecDepth 100000 in
set_option maxHeartbeats 4000000 in
theorem chunkBack_row (w : World) (v0 : Value) (bs : List Int) (hv0 : BytesAt w v0 bs) (hlt0 : ∀ k, blk v0 = some k → k < w.heap.size) (hr0 : ∀ i, i < bs.length → 0 ≤ bs[i]?.getD 0 ∧ bs[i]?.getD 0 < 256)
    (x0 : Int) (_ : IntKind.i64.min ≤ x0) (_ : x0 ≤ IntKind.i64.max) (y0 : Int) (_ : IntKind.i64.min ≤ y0) (_ : y0 ≤ IntKind.i64.max) :
    Calls Try.prog 5 #[v0, .int .i64 x0, .int .i64 y0] w fun e w' => e = .returned (.bool true) ∧ Own w w' [] := by
  rename_i q1 q2 q3 q4
  clear q1 q2 q3 q4
  have H := Own.refl w
  have hO : Old w v0 bs := ⟨hv0, hlt0⟩
  obtain ⟨p0, c0, rfl⟩ := hO.shape
  obtain ⟨n0, hn0⟩ : ∃ n, n = bs.length := ⟨_, rfl⟩
  rw [← hn0] at hO ⊢
  have O := Lib.hid hO
  have hr0' : Hid (IsBytes bs) := hr0
  have hn0' := Lib.hid hn0
  clear hv0 hlt0 hr0 hO hn0
  by_cases hbig : 1 ≤ n0 ∧ n0 ≤ 1500
  · obtain ⟨hb1, hb2⟩ := hbig
    have hO' := Lib.hid (fun (w' : World) (h : Own w w' []) => O.out.mv h (by simp))
    obtain ⟨k, hk⟩ : ∃ k, k = np bs.length := ⟨_, rfl⟩
    have hkn : k = (n0 + 255) / 256 := by rw [hk, ← hn0'.out]; rfl
    have hk6 : k ≤ 6 := by omega
    have hk1 : 1 ≤ k := by omega
    have hkq : ((n0 : Int) + 256 - 1).tdiv 256 = (k : Int) := by
      rw [Int.tdiv_eq_ediv_of_nonneg (by omega)]
      omega
    obtain ⟨ss, hss⟩ : ∃ ss, ss = sumsTo (pcs bs k) k := ⟨_, rfl⟩
    have hsl : Hid (ss.length = k) := by show _ = _; rw [hss, length_sumsTo]
    have hsp : Hid (∀ w', Own w w' [] → Calls Try.prog 10 #[.slice p0 n0 c0] w' fun e w'' => ∃ pp cp lp, e = .returned (.slice pp k cp) ∧ OldL w'' (.slice pp k cp) lp ∧ lp.map (·.2) = pcs bs k ∧ Own w' w'' []) := fun w' h => by
      refine (split_any w' _ bs (hO'.out w' h) hr0'.out (by have := hn0'.out; omega)).mono ?_
      rintro e w3 ⟨r, lp, rfl, h1, h2, h3⟩
      obtain ⟨pp, cp, rfl⟩ := h1.addr'
      have h4 : lp.length = k := by have h := congrArg List.length h2; rw [List.length_map, length_pcs] at h; omega
      rw [h4] at h1 ⊢
      rw [← hk] at h2
      exact ⟨pp, cp, lp, rfl, h1, h2, h3⟩
    have hk' := Lib.hid hk
    have hkn' := Lib.hid hkn
    have hss' := Lib.hid hss
    clear hk hkn hss
    have tok1 : True := trivial
    go_enter Try.func5, Try.ntmps5
    go_wp2_with (first
      | (clear tok1; go_at_call 10; refine (hsp.out _ H).mono ?_; rintro e w2 ⟨pp, cp, ls, rfl, hLp, hmp, h3⟩; have H2 := H.call0 h3; clear H h3 hsp; have H := H2; clear H2; have hmp' := Lib.hid hmp; clear hmp; have hll : Hid (ls.length = k) := (by show _ = _; have h := congrArg List.length hmp'.out; rw [List.length_map, length_pcs] at h; exact h); have hlm := Lib.hid (pieces_get hmp'.out); have hle : Hid (∀ (i : Nat) (x : Value × List Int), ls[i]? = some x → x.2.length ≤ 256) := (fun i x hx => by rw [(hlm.out i x hx).2, pc_length]; omega); have tok2 : True := trivial)
      | (clear tok2; go_at_call 8; refine (csums_any _ _ ls hLp (by have := hll.out; omega) (fun i x hx => by have := hle.out i x hx; omega)).mono ?_; rintro e w4 ⟨r, rfl, hHs, h3⟩; obtain ⟨ps, cs, rfl⟩ := hHs.shape; rw [hmp'.out, hll.out, ← hss'.out] at hHs; rw [hmp'.out, hll.out, ← hss'.out, hsl.out]; rw [hsl.out] at hHs; have hLp2 := hLp.mv h3; clear hLp; have hLp := hLp2; clear hLp2; have H2 := H.call0 h3; clear H h3; have H := H2; clear H2))
    have LP := Lib.hid hLp
    have HS := Lib.hid hHs
    have H4 := Lib.hid H
    clear hLp hHs H
    have H := Own.refl w4
    go_loopw [6, 9] (fun _ v9 wr => ∃ t, t + 1 ≤ k ∧ v9 = .int .i64 ((t : Nat) : Int) ∧ Own w4 wr []) (fun _ v9 _ => ((k : Int) - intOf v9).toNat)
    case atStart => exact ⟨0, by omega, rfl, H⟩
    case round =>
      clear H hkq
      obtain ⟨t, htk, rfl, H⟩ := hrel
      by_cases hlast : t + 1 < k
      · obtain ⟨x, hx, hxo, ⟨px, cx, hxs⟩, _⟩ := LP.out.get (i := t) (by have := hll.out; omega)
        obtain ⟨og, oo, hpp⟩ := LP.out.addr (by have := hll.out; omega)
        subst hpp
        have hxl : x.2.length = 256 := by rw [(hlm.out t x hx).2, pc_length]; have := hkn'.out; have := hn0'.out; omega
        have hcell : Hid (∀ w1, Own w4 w1 [] → w1.cell? ⟨og, oo + (t : Int).toNat * 1, none⟩ = some (.slice px 256 cx)) := fun w1 h1 => by rw [← hxl, ← hxs]; exact LP.out.cellAt h1 (by simp) (by simpa using hx)
        have hI : (t : Int) < (k : Int) - 1 := by omega
        clear hx hxo hxs hxl
        go_wp2_with (first
          | (refine st_val rfl (rn_idxSl (j := (t : Int)) rfl rfl size_sl rfl rfl (by omega) (by omega)) ?_)
          | (refine st_val rfl (rn_cell (i := oo + (t : Int).toNat * 1) rfl rfl rfl rfl (hcell.out _ H)) ?_))
        exact ⟨⟨t + 1, by omega, by go_num, H⟩, by simp [intOf]; omega⟩
      · have hI : ¬ ((t : Int) < (k : Int) - 1) := by omega
        have hokL : Hid (∀ (j : Nat) (x : Value × List Int), ls[j]? = some x → x.2.length ≤ 300) := fun j x hx => by have := hle.out j x hx; omega
        have e1 : Hid (jcode (ls.map (·.2)) ss = 0) := by show _ = _; rw [hmp'.out, hss'.out, hk'.out]; exact jcode_self bs
        have e2 : Hid (jbytes (ls.map (·.2)) ss = bs) := by show _ = _; rw [hmp'.out, hss'.out, hk'.out]; exact jbytes_self bs
        have e3 : Hid (jcode ((ls.drop 1).map (·.2)) ss = 8) := by show _ = _; rw [List.map_drop, hmp'.out, hss'.out]; exact jcode_tail hk'.out hk1
        have J1 : Hid (∀ w', Own w4 w' [] → Calls Try.prog 7 #[.slice pp k cp, .slice ps k cs] w' fun e w'' => ∃ pb cb, e = .returned (.tuple #[.slice pb n0 cb, .int .i64 0]) ∧ BIn bs w'' (.slice pb n0 cb) ∧ Own w' w'' []) := fun w' h => by
          refine (join_any w' _ _ ls ss (LP.out.mv h) (HS.out.mv h) (by have := hll.out; omega) (fun j x hx => by have := hokL.out j x hx; omega)).mono ?_
          rintro e w5 ⟨r, rfl, hB, h3⟩
          rw [e1.out]
          rw [e2.out] at hB
          obtain ⟨⟨pb, cb, rfl⟩, _⟩ := id hB
          rw [← hn0'.out] at hB ⊢
          exact ⟨pb, cb, rfl, hB, h3⟩
        have J2 : Hid (∀ w' p c, Own w4 w' [] → OldL w' (.slice p (k - 1) c) (ls.drop 1) → Calls Try.prog 7 #[.slice p (k - 1) c, .slice ps k cs] w' fun e w'' => ∃ r, e = .returned (.tuple #[r, .int .i64 8]) ∧ Own w' w'' []) := fun w' p c h hd => by
          refine (join_any w' _ _ (ls.drop 1) ss hd (HS.out.mv h) (by have := hll.out; rw [List.length_drop]; omega) (fun j x hx => by rw [List.getElem?_drop] at hx; have := hokL.out _ x hx; omega)).mono ?_
          rintro e w5 ⟨r, rfl, hB, h3⟩
          rw [e3.out]
          exact ⟨r, rfl, h3⟩
        have hsub := Lib.hid (fun (w' : World) (h : Own w4 w' []) => (LP.out.mv h).sl)
        rw [hll.out] at hsub
        clear e1 e2 e3
        have tok1 : True := trivial
        go_wp2_with (first
          | (clear tok1; go_at_call 7; refine (J1.out _ H).mono ?_; rintro e w5 ⟨pb, cb, rfl, B1, h3⟩; have H2 := H.trans h3; clear H h3 J1; have H := H2; clear H2; have tok2 : True := trivial)
          | (clear tok2; refine st_slEx rfl (rn_sub (m := k - 1) (n := k) (l := 1) (h := k) rfl rfl size_sl rfl (hsub.out _ H) (by rw [List.length_map]; exact hll.out) (by exact .is rfl rfl rfl) (by exact .no _) (by omega) (by omega) (by omega)) ?_; intro p3 c3 hb3; have D3 : Hid (OldL w5 (.slice p3 (k - 1) c3) (ls.drop 1)) := (LP.out.mv H).sub1 hb3 (by rw [hll.out]); clear hb3; have tok3 : True := trivial)
          | (clear tok3; go_at_call 7; refine (J2.out _ _ _ H D3.out).mono ?_; rintro e w6 ⟨r6, rfl, h3⟩; have B12 := (BIn.mono _) _ _ _ h3 B1; clear B1; have B1 := B12; clear B12; have H2 := H.trans h3; clear H h3 J2 D3; have H := H2; clear H2; have tok4 : True := trivial)
          | (clear tok4; go_at_call 13; refine (B1.same (v2 := .slice p0 n0 c0) ⟨⟨p0, c0, by rw [← hn0'.out]⟩, (hO'.out _ (H4.out.trans H))⟩ hr0'.out).mono ?_; rintro e w7 ⟨rfl, h3⟩; clear B1; have H2 := H.trans h3; clear H h3; have H := H2; clear H2; have tok5 : True := trivial)
          | (clear tok5; refine st_new rfl (rn_buildSlice (e := 25) (cs := []) (Own.refl w7) rfl (fun w' => by kernel_rfl)) ?_; intro b8 w8 hb8 M; have E := BufV.lit (n := 0) (sz := 1) M hb8 rfl (by omega); clear M hb8; have hL8 := Lib.hid (LP.out.mv H); have tok6 : True := trivial)
          | (clear tok6; refine st_appV rfl E elem_sl rfl rfl rfl rfl (m := k) (by have := (hL8.out.mv E.own0).sl; rw [hll.out] at this; exact this) (by rw [List.length_map, hll.out, Nat.mul_one]) hL8.out.oneCell (by omega) (by omega) ?_; clear E; intro p9 c9 w9 E))
        have H8 := Lib.hid H
        clear H hL8 hsub hI hlast htk hO' hn0' hkn' hss' hk' hmp' hlm
        have L7 := Lib.hid (LP.out.mv H8.out)
        have H7 := Lib.hid (H4.out.trans H8.out)
        have HS7 := Lib.hid (HS.out.mv H8.out)
        rw [List.nil_append] at E
        obtain ⟨g, hg⟩ := E.addr (by omega)
        subst hg
        obtain ⟨x, hx, hx1⟩ := rem_wrap x0 k (by omega) (by omega)
        obtain ⟨y, hy, hy1⟩ := rem_wrap y0 k (by omega) (by omega)
        obtain ⟨px, hpx⟩ : ∃ q, ls[x]? = some q := ⟨_, List.getElem?_eq_getElem (by have := hll.out; omega)⟩
        obtain ⟨py, hpy⟩ : ∃ q, ls[y]? = some q := ⟨_, List.getElem?_eq_getElem (by have := hll.out; omega)⟩
        clear LP HS H4 H8
        obtain ⟨d1, hd1⟩ : ∃ d, d = jcode ((swp ls x y px py).map (·.2)) ss := ⟨_, rfl⟩
        obtain ⟨xs1, hxs1⟩ : ∃ d, d = jbytes ((swp ls x y px py).map (·.2)) ss := ⟨_, rfl⟩
        have hswl : Hid (∀ (j : Nat) (q : Value × List Int), (swp ls x y px py)[j]? = some q → q.2.length ≤ 300) := fun j q hq => by
          obtain ⟨i, hi, rfl⟩ := List.getElem_of_mem (swp_mem (List.mem_of_getElem? hpx) (List.mem_of_getElem? hpy) hq)
          exact hokL.out i _ (List.getElem?_eq_getElem hi)
        have J3 : Hid (∀ w', OldL w' (.slice (some ⟨g, 0, none⟩) k c9) (swp ls x y px py) → OldH w' (.slice ps k cs) ss →
            (Calls Try.prog 7 #[.slice (some ⟨g, 0, none⟩) k c9, .slice ps k cs] w' fun e w'' => ∃ r, e = .returned (.tuple #[r, .int .i64 d1]) ∧ BIn xs1 w'' r ∧ Own w' w'' []) ∧
            (Calls Try.prog 14 #[.slice (some ⟨g, 0, none⟩) k c9, .slice ps k cs] w' fun e w'' => ∃ r, e = .returned (.tuple #[r, .int .i64 d1]) ∧ BIn xs1 w'' r ∧ Own w' w'' [])) := fun w' h1 h2 => by
          rw [hd1, hxs1]
          exact ⟨join_any w' _ _ (swp ls x y px py) ss h1 h2 (by have := hll.out; rw [length_swp]; omega) (fun j x hx => by have := hswl.out j x hx; omega), refJoin_any w' _ _ (swp ls x y px py) ss h1 h2 (by have := hll.out; rw [length_swp]; omega) (fun j x hx => by have := hswl.out j x hx; omega)⟩
        have hxb : Hid (IsBytes xs1) := by
          rw [hxs1]
          refine isBytes_jbytes fun b hb => ?_
          obtain ⟨q, hq, rfl⟩ := List.mem_map.1 hb
          obtain ⟨j, hj, rfl⟩ := List.getElem_of_mem hq
          exact L7.out.isBytes _ (List.mem_map.2 ⟨_, swp_mem (List.mem_of_getElem? hpx) (List.mem_of_getElem? hpy) (List.getElem?_eq_getElem hj), rfl⟩)
        have hE := Lib.hid E
        clear E hd1 hxs1 hswl hokL hle
        refine region_grow 16 (by kernel_rfl) (by kernel_rfl) (by kernel_rfl) [.val (.int .i64 x0), .val (.int .u64 (IntKind.u64.wrap x0)), .val (.slice pp k cp), .val (.int .i64 k), .val (.int .u64 k), .val (.int .u64 ((IntKind.u64.wrap x0).tmod k)), .val (.int .i64 x), .val (.int .i64 y0), .val (.int .u64 (IntKind.u64.wrap y0)), .val (.slice pp k cp), .val (.int .i64 k), .val (.int .u64 k), .val (.int .u64 ((IntKind.u64.wrap y0).tmod k)), .val (.int .i64 y), .val (.int .i64 x), .val (.int .i64 y)] rfl ?_
        try go_frame
        repeat (first
          | (refine sp_val (fun w' hw' hF => ?_) ⟨_, rfl, Nat.le_of_ble_eq_true rfl⟩ ?_
             · go_big_quiet_step (fail)
               first | exact rfl | (simp only [hx]; exact rfl) | (simp only [hy]; exact rfl)
             try go_frame))
        refine sp_nil ?_
        intro w10 hw10 _
        have E := hE.out.call0 hw10
        have hx2 : x < k := by omega
        have hy2 : y < k := by omega
        clear hx hy hx1 hy1 hE hw10
        simp only [List.drop_succ_cons, List.drop_zero]
        go_wp2_with fail
        have hpx1 : (ls.map (·.1))[x]? = some px.1 := by simp [hpx]
        have hpy1 : (ls.map (·.1))[y]? = some py.1 := by simp [hpy]
        have hc1 : Hid (∀ w', Own w10 w' [] → w'.cell? ⟨g, 0 + (x : Int).toNat * 1, none⟩ = some px.1) := fun w' h => (E.call0 h).cellAt hpx1
        have hc2 : Hid (∀ w', Own w10 w' [] → w'.cell? ⟨g, 0 + (y : Int).toNat * 1, none⟩ = some py.1) := fun w' h => (E.call0 h).cellAt hpy1
        have hE := Lib.hid E
        have h1x : Hid (px.1.oneCell' = true) := L7.out.oneCell _ (List.mem_of_getElem? hpx1)
        have h1y : Hid (py.1.oneCell' = true) := L7.out.oneCell _ (List.mem_of_getElem? hpy1)
        clear E hpx1 hpy1
        refine region_put 13 (by kernel_rfl) (by kernel_rfl) (by kernel_rfl) [.val (.slice (some ⟨g, 0, none⟩) k c9), .val (.int .i64 x), .val (.slice (some ⟨g, 0, none⟩) k c9), .val (.int .i64 y), .val (.slice (some ⟨g, 0, none⟩) k c9), .val (.int .i64 y), .val (.pointer (some ⟨g, 0 + (y : Int).toNat * 1, none⟩)), .val py.1, .val (.slice (some ⟨g, 0, none⟩) k c9), .val (.int .i64 x), .val (.pointer (some ⟨g, 0 + (x : Int).toNat * 1, none⟩)), .val px.1, .val (.pointer (some ⟨g, 0 + (x : Int).toNat * 1, none⟩))] rfl rfl
          (fun _ w2 => BufV 25 1 w7 w2 [] (.slice (some ⟨g, 0, none⟩) k c9) k ((ls.map (·.1)).set (0 + (x : Int).toNat * 1) py.1)) ?_
        try go_frame
        repeat (first
          | (refine sp_run (v := .pointer (some ⟨g, 0 + (x : Int).toNat * 1, none⟩)) rfl (fun w' hw' _ => rn_idxSl (j := (x : Int)) rfl rfl size_sl rfl rfl (by omega) (by omega)) ?_; go_frame)
          | (refine sp_run (v := .pointer (some ⟨g, 0 + (y : Int).toNat * 1, none⟩)) rfl (fun w' hw' _ => rn_idxSl (j := (y : Int)) rfl rfl size_sl rfl rfl (by omega) (by omega)) ?_; go_frame)
          | (refine sp_run (v := px.1) rfl (fun w' hw' _ => rn_cell rfl rfl rfl rfl (hc1.out w' hw')) ?_; go_frame)
          | (refine sp_run (v := py.1) rfl (fun w' hw' _ => rn_cell rfl rfl rfl rfl (hc2.out w' hw')) ?_; go_frame)
          | (refine sp_val (fun w' hw' hF => ?_) ⟨_, rfl, Nat.le_of_ble_eq_true rfl⟩ ?_
             · go_big_quiet_step (fail)
               exact rfl
             try go_frame))
        refine sp_nil ⟨?_, ?_⟩
        · intro o ho w' hw'
          cases ho
          have hi : 0 + (x : Int).toNat * 1 < k := by simpa using hx2
          show YieldsTo _ _ _ w' (fun v w2 => v = undef ∧ BufV 25 1 w7 w2 [] (.slice (some ⟨g, 0, none⟩) k c9) k ((ls.map (·.1)).set (0 + (x : Int).toNat * 1) py.1))
          refine yields_storeV (u := py.1) (i := 0 + (x : Int).toNat * 1) (by have := hE.out.call0 hw'; rwa [Nat.zero_add] at this) rfl rfl rfl (by kernel_rfl) hi h1y.out
        · intro w1 w2 w3 _ E2 hw3
          have E := E2.call0 hw3
          clear E2 hc1 hc2 hE hw3
          have hx0 : 0 + (x : Int).toNat * 1 = x := by simp
          rw [hx0] at E
          clear hx0
          simp only [List.drop_succ_cons, List.drop_zero]
          have tok1 : True := trivial
          go_wp2_with (first
            | (refine st_val rfl (rn_idxSl (j := (y : Int)) rfl rfl size_sl rfl rfl (by omega) (by omega)) ?_)
            | (refine st_storeV (u := px.1) (i := 0 + (y : Int).toNat * 1) rfl E rfl rfl rfl (by kernel_rfl) (by simpa using hy2) h1x.out ?_; clear E; intro w11 E; have hy0 : 0 + (y : Int).toNat * 1 = y := by { simp }; rw [hy0, map_swp] at E; clear hy0; have hM := Lib.hid (L7.out.swap E.own0 hpx hpy E hll.out.symm); have HS11 := Lib.hid (HS7.out.mv E.own0); have H := H7.out.trans E.own0; clear E hpx hpy)
            | (clear tok1; go_at_call 7; refine (J3.out _ hM.out HS11.out).1.mono ?_; rintro e w12 ⟨r1, rfl, B1, h3⟩; have hM2 := Lib.hid (hM.out.mv h3); have HS12 := Lib.hid (HS11.out.mv h3); have H2 := H.trans h3; clear H h3 hM HS11; have H := H2; clear H2; have tok2 : True := trivial)
            | (clear tok2; go_at_call 14; refine (J3.out _ hM2.out HS12.out).2.mono ?_; rintro e w13 ⟨r2, rfl, B2, h3⟩; have B12 := (BIn.mono _) _ _ _ h3 B1; clear B1; have B1 := B12; clear B12; have H2 := H.trans h3; clear H h3 hM2 HS12; have H := H2; clear H2; have tok3 : True := trivial)
            | (clear tok3; go_at_call 9; refine (told_any _).mono ?_; rintro e w14 ⟨rfl, h3⟩; have B12 := (BIn.mono _) _ _ _ h3 B1; clear B1; have B1 := B12; clear B12; have B22 := (BIn.mono _) _ _ _ h3 B2; clear B2; have B2 := B22; clear B22; have H2 := H.trans h3; clear H h3; have H := H2; clear H2; have tok4 : True := trivial)
            | (clear tok4; go_at_call 13; refine (B1.same B2 hxb.out).mono ?_; rintro e w15 ⟨rfl, h3⟩; clear B1 B2; have H2 := H.trans h3; clear H h3; have H := H2; clear H2))
          have H' := Lib.hid H
          go_ret
          exact ⟨rfl, H'.out⟩
  · have hbig' : n0 < 1 ∨ (1 ≤ n0 ∧ 1500 < n0) := by omega
    clear hbig
    rcases hbig' with h1 | ⟨h1, h2⟩
    all_goals
      go_enter Try.func5, Try.ntmps5
      go_wp2_with (go_at_call 9; refine (told_any _).mono ?_; rintro e w3 ⟨rfl, h3⟩; have H2 := H.call0 h3; clear H h3; have H := H2; clear H2)
      have H' := Lib.hid H
      go_ret
      exact ⟨rfl, H'.out⟩

end Go.Proofs.Ytjcnhpnadfhjaaa
