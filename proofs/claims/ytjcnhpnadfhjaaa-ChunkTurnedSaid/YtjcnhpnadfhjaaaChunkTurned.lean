/- chirographlaw20.ChunkTurned: the walk. -/
import Derived.Test.YtjcnhpnadfhjaaaChunkBack
import Derived.Laws.BitsAllLaws
namespace Go.Proofs.Ytjcnhpnadfhjaaa
open Go.RowKit

theorem xor_facts {z x : Int} (hz : 0 ≤ z ∧ z < 256) (hx : 0 ≤ x ∧ x < 256) : (0 ≤ bits .xor .u8 z x ∧ bits .xor .u8 z x < 256) ∧ (x = 0 → bits .xor .u8 z x = z) := by
  rw [u8_xor z x hz.1 hz.2 hx.1 hx.2]
  have h := Nat.xor_lt_two_pow (x := z.toNat) (y := x.toNat) (n := 8) (by omega) (by omega)
  refine ⟨⟨by omega, by omega⟩, fun h0 => ?_⟩
  subst h0
  simp
  omega

theorem pc_set {bs : List Int} {k j : Nat} {z : Int} (h : j ≠ k / 256) : pc (bs.set k z) j = pc bs j := by
  unfold pc
  rw [List.drop_set]
  split
  · rfl
  · rename_i h1
    rw [List.take_set_of_le]
    omega

theorem isBytes_set {bs : List Int} {k : Nat} {z : Int} (h : IsBytes bs) (hz : 0 ≤ z ∧ z < 256) : IsBytes (bs.set k z) := by
  rw [isBytes_iff] at h ⊢
  intro x hx
  rcases List.mem_or_eq_of_mem_set hx with h1 | rfl
  · exact h x h1
  · exact hz

theorem sumsTo_get {bs : List Int} {K j : Nat} (h : j < K) : (sumsTo (pcs bs K) K)[j]? = some (sha (chnk j (pc bs j))) := by
  have h1 := pcs_get (bs := bs) h
  simp [sumsTo, h, h1]

theorem BufV.cellAt0 {e : TypeId} {w0 w : World} {L : List Ent} {g n c : Nat} {cs : List Value} (E : BufV e 1 w0 w L (.slice (some ⟨g, 0, none⟩) n c) n cs) {i : Nat} {u : Value} (hu : cs[i]? = some u) : w.cell? ⟨g, i, none⟩ = some u := by
  simpa using E.cellAt hu

set_option maxRecDepth 100000 in
set_option maxHeartbeats 4000000 in
theorem chunkTurned_row (w : World) (v0 : Value) (bs : List Int) (hv0 : BytesAt w v0 bs) (hlt0 : ∀ k, blk v0 = some k → k < w.heap.size) (hr0 : ∀ i, i < bs.length → 0 ≤ bs[i]?.getD 0 ∧ bs[i]?.getD 0 < 256)
    (at0 : Int) (_ : IntKind.i64.min ≤ at0) (_ : at0 ≤ IntKind.i64.max) (x0 : Int) (hx0 : IntKind.u8.min ≤ x0) (hx1 : x0 ≤ IntKind.u8.max) :
    Calls Try.prog 6 #[v0, .int .i64 at0, .int .u8 x0] w fun e w' => e = .returned (.bool true) ∧ Own w w' [] := by
  rename_i q1 q2
  clear q1 q2
  have H := Own.refl w
  have hO : Old w v0 bs := ⟨hv0, hlt0⟩
  obtain ⟨p0, c0, rfl⟩ := hO.shape
  obtain ⟨n0, hn0⟩ : ∃ n, n = bs.length := ⟨_, rfl⟩
  rw [← hn0] at hO ⊢
  have O := Lib.hid hO
  have hr0' : Hid (IsBytes bs) := hr0
  have hn0' := Lib.hid hn0
  have hx0' : Hid (0 ≤ x0 ∧ x0 < 256) := by simp [IntKind.min, IntKind.max, IntKind.signed, IntKind.bits] at hx0 hx1; exact ⟨by omega, by omega⟩
  clear hv0 hlt0 hr0 hO hn0 hx0 hx1
  by_cases hbig : 1 ≤ n0 ∧ n0 ≤ 1000
  · obtain ⟨hb1, hb2⟩ := hbig
    have hO' := Lib.hid (fun (w' : World) (h : Own w w' []) => O.out.mv h (by simp))
    obtain ⟨K, hK⟩ : ∃ k, k = np bs.length := ⟨_, rfl⟩
    have hkn : K = (n0 + 255) / 256 := by rw [hK, ← hn0'.out]; rfl
    have hk6 : K ≤ 6 := by omega
    have hk1 : 1 ≤ K := by omega
    obtain ⟨ss, hss⟩ : ∃ ss, ss = sumsTo (pcs bs K) K := ⟨_, rfl⟩
    have hsl : Hid (ss.length = K) := by show _ = _; rw [hss, length_sumsTo]
    have hsp : Hid (∀ w' ys v, Old w' v ys → ys.length = n0 → IsBytes ys → Calls Try.prog 10 #[v] w' fun e w'' => ∃ pp cp lp, e = .returned (.slice pp K cp) ∧ OldL w'' (.slice pp K cp) lp ∧ lp.map (·.2) = pcs ys K ∧ Own w' w'' []) := fun w' ys v h hl hy => by
      refine (split_any w' _ ys h hy (by omega)).mono ?_
      rintro e w3 ⟨r, lp, rfl, h1, h2, h3⟩
      obtain ⟨pp, cp, rfl⟩ := h1.addr'
      have hK2 : np ys.length = K := by rw [hl, hK, ← hn0'.out]
      rw [hK2] at h2
      have h4 : lp.length = K := by have h := congrArg List.length h2; rw [List.length_map, length_pcs] at h; omega
      rw [h4] at h1 ⊢
      exact ⟨pp, cp, lp, rfl, h1, h2, h3⟩
    have hsu : Hid (∀ w' ys v lp, OldL w' v lp → lp.map (·.2) = pcs ys K → Calls Try.prog 8 #[v] w' fun e w'' => ∃ pp cp, e = .returned (.slice pp K cp) ∧ OldH w'' (.slice pp K cp) (sumsTo (pcs ys K) K) ∧ Own w' w'' []) := fun w' ys v lp h hm => by
      have hll : lp.length = K := by have h := congrArg List.length hm; rw [List.length_map, length_pcs] at h; exact h
      refine (csums_any w' v lp h (by omega) (fun i x hx => by rw [(pieces_get hm i x hx).2, pc_length]; omega)).mono ?_
      rintro e w4 ⟨r, rfl, hHs, h3⟩
      obtain ⟨ps, cs, rfl⟩ := hHs.shape
      rw [hm, hll] at hHs ⊢
      rw [length_sumsTo] at hHs ⊢
      exact ⟨ps, cs, rfl, hHs, h3⟩
    obtain ⟨k, hk, hkn0⟩ := rem_wrap at0 n0 (by omega) (by omega)
    have hkn1 : k < n0 := by omega
    clear hkn0
    obtain ⟨z, hz⟩ : ∃ z, bs[k]?.getD 0 = z := ⟨_, rfl⟩
    have hz0 : Hid (0 ≤ z ∧ z < 256) := by have := hr0'.out k (by rw [← hn0'.out]; exact hkn1); rw [hz] at this; exact this
    have hzg : Hid ((u8s bs)[k]? = some (.int .u8 z)) := by show _ = _; rw [← hz]; exact ints_get (by rw [← hn0'.out]; exact hkn1)
    have hxf := Lib.hid (xor_facts hz0.out hx0'.out)
    obtain ⟨ys, hys⟩ : ∃ ys, bs.set k (bits .xor .u8 z x0) = ys := ⟨_, rfl⟩
    have hys' := Lib.hid hys
    have hyl : Hid (ys.length = n0) := by show _ = _; rw [← hys, List.length_set, ← hn0'.out]
    have hyb : Hid (IsBytes ys) := by rw [← hys]; exact isBytes_set hr0'.out hxf.out.1
    have hy0 : Hid (x0 = 0 → ys = bs) := fun h => by
      have hkb : k < bs.length := by rw [← hn0'.out]; exact hkn1
      rw [← hys, hxf.out.2 h, ← hz]
      simp [hkb]
    have hKy : Hid (np ys.length = K) := by show _ = _; rw [hyl.out, hK, ← hn0'.out]
    obtain ⟨tt, htt⟩ : ∃ tt, tt = sumsTo (pcs ys K) K := ⟨_, rfl⟩
    have htl : Hid (tt.length = K) := by show _ = _; rw [htt, length_sumsTo]
    have htt' := Lib.hid htt
    have hsame : Hid (∀ j, j < K → j ≠ k / 256 → ss[j]? = tt[j]?) := fun j hj hne => by rw [hss, htt, sumsTo_get hj, sumsTo_get hj, ← hys, pc_set hne]
    have hst0 : Hid (x0 = 0 → tt = ss) := fun h => by rw [htt, hy0.out h, hss]
    obtain ⟨d1, hd1⟩ : ∃ d, d = jcode (pcs ys K) ss := ⟨_, rfl⟩
    obtain ⟨xs1, hxs1⟩ : ∃ x, x = jbytes (pcs ys K) ss := ⟨_, rfl⟩
    obtain ⟨m1, hm1⟩ : ∃ m, m = xs1.length := ⟨_, rfl⟩
    have hyok : okAll (pcs ys K) := by rw [← hKy.out]; exact okAll_pcs ys
    have hj0 : Hid (tt = ss → d1 = 0 ∧ xs1 = ys ∧ m1 = n0) := fun h => by
      have e1 : jcode (pcs ys K) ss = 0 := jcode_ok hyok (by rw [length_pcs, ← htt, h])
      have e2 : xs1 = ys := by rw [hxs1, jbytes_ok e1]; rw [← hKy.out]; exact flatten_pcs ys
      exact ⟨hd1.trans e1, e2, by rw [hm1, e2, hyl.out]⟩
    have hj8 : Hid (¬ tt = ss → d1 = 8 ∧ m1 = 0) := fun h => by
      have e1 : jcode (pcs ys K) ss = 8 := jcode_sum hyok (by rw [length_pcs, ← htt]; exact h)
      exact ⟨hd1.trans e1, by rw [hm1, hxs1, jbytes_ne e1 (by decide)]; rfl⟩
    have hjo : Hid (∀ w' lp v u, OldL w' v lp → lp.map (·.2) = pcs ys K → OldH w' u ss → Calls Try.prog 7 #[v, u] w' fun e w'' => ∃ pd cd, e = .returned (.tuple #[.slice pd m1 cd, .int .i64 d1]) ∧ BIn xs1 w'' (.slice pd m1 cd) ∧ Own w' w'' []) := fun w' lp v u h hm hu => by
      have hll : lp.length = K := by have h := congrArg List.length hm; rw [List.length_map, length_pcs] at h; exact h
      refine (join_any w' v u lp ss h hu (by omega) (fun i x hx => by rw [(pieces_get hm i x hx).2, pc_length]; omega)).mono ?_
      rintro e w3 ⟨r, rfl, hB, h3⟩
      rw [hm, ← hd1]
      rw [hm, ← hxs1] at hB
      obtain ⟨⟨pd, cd, rfl⟩, _⟩ := id hB
      rw [← hm1] at hB ⊢
      exact ⟨pd, cd, rfl, hB, h3⟩
    clear hys htt hd1 hxs1 hm1 hyok
    have hK' := Lib.hid hK
    have hkn' := Lib.hid hkn
    have hss' := Lib.hid hss
    have hz' := Lib.hid hz
    clear hK hkn hss hz
    have tok1 : True := trivial
    go_enter Try.func6, Try.ntmps6
    go_wp2_with (first
      | (clear tok1; go_at_call 10; refine (hsp.out _ bs _ (hO'.out _ H) hn0'.out.symm hr0'.out).mono ?_; rintro e w2 ⟨pp, cp, ls, rfl, hLp, hmp, h3⟩; have H2 := H.call0 h3; clear H h3; have H := H2; clear H2; have hmp' := Lib.hid hmp; clear hmp; have tok2 : True := trivial)
      | (clear tok2; go_at_call 8; refine (hsu.out _ bs _ ls hLp hmp'.out).mono ?_; rintro e w4 ⟨ps, cs, rfl, hHs, h3⟩; rw [← hss'.out] at hHs; clear hLp; have H2 := H.call0 h3; clear H h3; have H := H2; clear H2; have tok3 : True := trivial)
      | (clear tok3; refine st_new rfl (rn_buildSlice (e := 5) (cs := []) (Own.refl w4) rfl (fun w' => by kernel_rfl)) ?_; intro b5 w5 hb5 M; have E := BufV.lit (n := 0) (sz := 1) M hb5 rfl (by omega); clear M hb5; have HS4 := Lib.hid hHs; have H4 := Lib.hid H; clear hHs H; have O4 := Lib.hid (hO'.out _ H4.out); have tok4 : True := trivial)
      | (clear tok4; refine st_appV rfl E elem_u8 rfl rfl rfl rfl (m := n0) (ds := u8s bs) (by have := (O4.out.mv E.own0 (by simp)).1; rw [BytesAt, ← hn0'.out] at this; exact this) (by rw [length_ints, Nat.mul_one]; exact hn0'.out.symm) (oneCell_ints _ _) (by omega) (by omega) ?_; clear E; intro p6 c6 w6 E; rw [List.nil_append] at E; obtain ⟨g, hg⟩ := E.addr (by omega); subst hg; rw [Nat.zero_add] at E; rw [Nat.zero_add])
      | (refine st_val rfl (rn_cell rfl rfl rfl rfl (E.cellAt0 hzg.out)) ?_)
      | (refine st_storeV (i := k) (u := .int .u8 (bits .xor .u8 z x0)) rfl E rfl rfl rfl (by kernel_rfl) (by omega) rfl ?_; clear E; intro w7 E; rw [← ints_set, hys'.out] at E; have Y7 := Lib.hid (show Old w7 (.slice (some ⟨g, 0, none⟩) n0 c6) ys from ⟨by rw [BytesAt, hyl.out]; exact E.slAt, E.lt⟩); have HS7 := Lib.hid (HS4.out.mv E.own0); have H := H4.out.trans E.own0; clear E; have tok5 : True := trivial)
      | (clear tok5; go_at_call 10; refine (hsp.out _ ys _ Y7.out hyl.out hyb.out).mono ?_; rintro e w8 ⟨pl, cl, ll, rfl, hLl, hml, h3⟩; have Y8 := Lib.hid (Y7.out.mv h3 (by simp)); have HS8 := Lib.hid (HS7.out.mv h3); clear HS7; have H2 := H.trans h3; clear H h3; have H := H2; clear H2; have hml' := Lib.hid hml; clear hml; have tok6 : True := trivial)
      | (clear tok6; go_at_call 8; refine (hsu.out _ ys _ ll hLl hml'.out).mono ?_; rintro e w9 ⟨pt, ct, rfl, hHt, h3⟩; rw [← htt'.out] at hHt; have HT9 := Lib.hid hHt; clear hHt; have hLl2 := hLl.mv h3; clear hLl; have hLl := hLl2; clear hLl2; have Y9 := Lib.hid (Y8.out.mv h3 (by simp)); have HS9 := Lib.hid (HS8.out.mv h3); clear HS8; have H2 := H.trans h3; clear H h3; have H := H2; clear H2; have tok7 : True := trivial)
      | (clear tok7; go_at_call 7; refine (hjo.out _ ll _ _ hLl hml'.out HS9.out).mono ?_; rintro e w10 ⟨pd, cd, rfl, hB, h3⟩; have BD := Lib.hid hB; clear hB hLl; have Y := Lib.hid (Y9.out.mv h3 (by simp)); have HS := Lib.hid (HS9.out.mv h3); have HT := Lib.hid (HT9.out.mv h3); clear HS9 HT9; have H2 := H.trans h3; clear H h3; have H := H2; clear H2))
    have H9 := Lib.hid H
    clear H hsp hsu hjo hO' hk
    have H := Own.refl w10
    go_loopw [14, 15] (fun v14 v15 wr => ∃ i f : Nat, i ≤ K ∧ v15 = .int .i64 ((i : Nat) : Int) ∧ v14 = .int .i64 ((f : Nat) : Int) ∧ f ≤ 1 ∧ (f = 0 ↔ ss.take i = tt.take i) ∧ (i ≤ k / 256 → f = 0) ∧ Own w10 wr []) (fun _ v15 _ => ((K : Int) - intOf v15).toNat)
    case atStart => exact ⟨0, 0, by omega, rfl, rfl, by omega, by simp, fun _ => rfl, H⟩
    case round =>
      clear H
      obtain ⟨i, f, hi, rfl, rfl, hf1, hff, hfq, H⟩ := hrel
      have hff' := Lib.hid hff
      have hfq' := Lib.hid hfq
      clear hff hfq
      by_cases hin : i < K
      · obtain ⟨g1, hg1⟩ : ∃ g, ss[i]? = some g := ⟨_, List.getElem?_eq_getElem (by have := hsl.out; omega)⟩
        obtain ⟨g2, hg2⟩ : ∃ g, tt[i]? = some g := ⟨_, List.getElem?_eq_getElem (by have := htl.out; omega)⟩
        have hl1 := Lib.hid (HS.out.el g1 (List.mem_of_getElem? hg1))
        have hl2 := Lib.hid (HT.out.el g2 (List.mem_of_getElem? hg2))
        obtain ⟨b1, o1, e1⟩ := HS.out.addr (by have := hsl.out; omega)
        obtain ⟨b2, o2, e2⟩ := HT.out.addr (by have := htl.out; omega)
        subst e1 e2
        have hwr := Lib.hid H
        have r1 : Hid (∀ w', Own wr w' [] → ∀ j v, (u8s g1)[j]? = some v → w'.cell? ⟨b1, o1 + (i : Int).toNat * 32 + j, none⟩ = some v) := fun w' h => (HS.out.mv (hwr.out.trans h)).row hg1
        have r2 : Hid (∀ w', Own wr w' [] → ∀ j v, (u8s g2)[j]? = some v → w'.cell? ⟨b2, o2 + (i : Int).toNat * 32 + j, none⟩ = some v) := fun w' h => (HT.out.mv (hwr.out.trans h)).row hg2
        have hneq : Hid (g1 ≠ g2 → i = k / 256) := fun hne => by
          rcases Nat.decEq i (k / 256) with h | h
          · exfalso
            apply hne
            have := hsame.out i hin h
            rw [hg1, hg2] at this
            cases this
            rfl
          · exact h
        have hte : Hid (ss.take i = tt.take i → (ss.take (i + 1) = tt.take (i + 1) ↔ g1 = g2)) := fun h => take_succ_eq h hg1 hg2
        have htn : Hid (ss.take (i + 1) = tt.take (i + 1) → ss.take i = tt.take i) := fun h => by
          have := congrArg (List.take i) h
          rwa [List.take_take, List.take_take, Nat.min_eq_left (by omega)] at this
        obtain ⟨q, hq⟩ : ∃ q, decide (g1 = g2) = q := ⟨_, rfl⟩
        have eS : ∀ w, (Op.equalIn 10000 35 (.agg (u8s g1).toArray) (.agg (u8s g2).toArray)).run Try.prog w = .ok q w := fun w => by rw [eqHash w g1 g2 hl1.out hl2.out, hq]
        have hq' := Lib.hid hq
        clear hg1 hg2 hq H
        go_wp2_with fail
        refine region_grow 9 (by kernel_rfl) (by kernel_rfl) (by kernel_rfl) [.val (.slice (some ⟨b1, o1, none⟩) K cs), .val (.int .i64 i), .val (.pointer (some ⟨b1, o1 + (i : Int).toNat * 32, none⟩)), .val (.agg (u8s g1).toArray), .val (.slice (some ⟨b2, o2, none⟩) K ct), .val (.int .i64 i), .val (.pointer (some ⟨b2, o2 + (i : Int).toNat * 32, none⟩)), .val (.agg (u8s g2).toArray), .val (.bool (!q))] rfl ?_
        try go_frame
        repeat (first
          | (refine sp_run (v := .pointer (some ⟨b1, o1 + (i : Int).toNat * 32, none⟩)) rfl (fun w' hw' _ => rn_idxSl (j := (i : Int)) rfl rfl size_hash rfl rfl (by omega) (by omega)) ?_; go_frame)
          | (refine sp_run (v := .agg (u8s g1).toArray) rfl (fun w' hw' _ => rn_cells rfl rfl rfl rfl (size_hash32 hl1.out) (r1.out w' hw')) ?_; go_frame)
          | (refine sp_run (v := .pointer (some ⟨b2, o2 + (i : Int).toNat * 32, none⟩)) rfl (fun w' hw' _ => rn_idxSl (j := (i : Int)) rfl rfl size_hash rfl rfl (by omega) (by omega)) ?_; go_frame)
          | (refine sp_run (v := .agg (u8s g2).toArray) rfl (fun w' hw' _ => rn_cells rfl rfl rfl rfl (size_hash32 hl2.out) (r2.out w' hw')) ?_; go_frame)
          | (refine sp_val (fun w' hw' hF => ?_) ⟨_, rfl, Nat.le_of_ble_eq_true rfl⟩ ?_
             · go_big_quiet_step (fail)
               exact rfl
             try go_frame))
        refine sp_nil ?_
        intro w' hw' hF
        have H' := hwr.out.trans hw'
        clear hw' hF r1 r2 eS hwr
        simp only [List.drop_succ_cons, List.drop_zero]
        cases q with
        | true =>
          have hge := Lib.hid (of_decide_eq_true hq'.out)
          go_wp2_with fail
          exact ⟨⟨i + 1, f, by omega, by go_num, rfl, hf1, ⟨fun h => (hte.out (hff'.out.1 h)).2 hge.out, fun h => hff'.out.2 (htn.out h)⟩, fun h => hfq'.out (by omega), H'⟩, by simp [intOf]; omega⟩
        | false =>
          have hge := Lib.hid (of_decide_eq_false hq'.out)
          have hiq := Lib.hid (hneq.out hge.out)
          have hf0 : f = 0 := hfq'.out (by have := hiq.out; omega)
          subst hf0
          go_wp2_with fail
          exact ⟨⟨i + 1, 1, by omega, by go_num, rfl, by omega, ⟨fun h => by omega, fun h => absurd ((hte.out (hff'.out.1 rfl)).1 h) hge.out⟩, fun h => by have := hiq.out; omega, H'⟩, by simp [intOf]; omega⟩
      · obtain rfl : i = K := by omega
        have hfin : Hid (f = 0 ↔ tt = ss) := by
          have h1 := hff'.out
          rw [List.take_of_length_le (by have := hsl.out; omega), List.take_of_length_le (by have := htl.out; omega)] at h1
          exact ⟨fun h => (h1.1 h).symm, fun h => h1.2 h.symm⟩
        clear hff' hfq' hin HS HT hsl htl hsame hxf hKy htt' hss' hml' hmp' hy0
        by_cases htt : tt = ss
        · obtain ⟨e1, e2, e3⟩ := hj0.out htt
          obtain rfl : f = 0 := hfin.out.2 htt
          subst e1 e3
          rw [e2] at BD
          clear e2 htt hst0 hj0 hj8 hfin
          by_cases hx : x0 = 0
          · subst hx
            go_wp2_with (first
              | (go_at_call 9; refine (told_any _).mono ?_; rintro e w11 ⟨rfl, h3⟩; have H2 := H.trans h3; have BD2 := Lib.hid ((BIn.mono _) _ _ _ H2 BD.out); have Y2 := Lib.hid (Y.out.mv H2 (by simp)); clear H h3; have H := H2; clear H2)
              | (go_at_call 13; refine (BIn.same BD2.out ⟨⟨_, c6, by rw [hyl.out]⟩, Y2.out⟩ hyb.out).mono ?_; rintro e w12 ⟨rfl, h3⟩; have H2 := H.trans h3; clear H h3; have H := H2; clear H2))
            have H' := Lib.hid (H9.out.trans H)
            go_ret
            exact ⟨rfl, H'.out⟩
          · have hxb : (x0 == 0) = false := by rw [beq_eq_false_iff_ne]; exact hx
            go_wp2_with (first
              | (go_at_call 9; refine (told_any _).mono ?_; rintro e w11 ⟨rfl, h3⟩; have H2 := H.trans h3; have BD2 := Lib.hid ((BIn.mono _) _ _ _ H2 BD.out); have Y2 := Lib.hid (Y.out.mv H2 (by simp)); clear H h3; have H := H2; clear H2)
              | (go_at_call 13; refine (BIn.same BD2.out ⟨⟨_, c6, by rw [hyl.out]⟩, Y2.out⟩ hyb.out).mono ?_; rintro e w12 ⟨rfl, h3⟩; have H2 := H.trans h3; clear H h3; have H := H2; clear H2))
            have H' := Lib.hid (H9.out.trans H)
            go_ret
            exact ⟨rfl, H'.out⟩
        · obtain ⟨e1, e3⟩ := hj8.out htt
          obtain rfl : f = 1 := by have : f ≠ 0 := fun h => htt (hfin.out.1 h); omega
          have hx : ¬ x0 = 0 := fun h => htt (hst0.out h)
          have hxb : (x0 == 0) = false := by rw [beq_eq_false_iff_ne]; exact hx
          subst e1 e3
          clear htt hst0 hj0 hj8 hfin
          · skip
            go_wp2_with (first
              | (go_at_call 9; refine (told_any _).mono ?_; rintro e w11 ⟨rfl, h3⟩; have H2 := H.trans h3; have BD2 := Lib.hid ((BIn.mono _) _ _ _ H2 BD.out); have Y2 := Lib.hid (Y.out.mv H2 (by simp)); clear H h3; have H := H2; clear H2)
              | (go_at_call 13; refine (BIn.same BD2.out ⟨⟨_, c6, by rw [hyl.out]⟩, Y2.out⟩ hyb.out).mono ?_; rintro e w12 ⟨rfl, h3⟩; have H2 := H.trans h3; clear H h3; have H := H2; clear H2))
            have H' := Lib.hid (H9.out.trans H)
            go_ret
            exact ⟨rfl, H'.out⟩
  · have hbig' : n0 < 1 ∨ (1 ≤ n0 ∧ 1000 < n0) := by omega
    clear hbig
    rcases hbig' with h1 | ⟨h1, h2⟩
    all_goals
      go_enter Try.func6, Try.ntmps6
      go_wp2_with (go_at_call 9; refine (told_any _).mono ?_; rintro e w3 ⟨rfl, h3⟩; have H2 := H.call0 h3; clear H h3; have H := H2; clear H2)
      have H' := Lib.hid H
      go_ret
      exact ⟨rfl, H'.out⟩

end Go.Proofs.Ytjcnhpnadfhjaaa
