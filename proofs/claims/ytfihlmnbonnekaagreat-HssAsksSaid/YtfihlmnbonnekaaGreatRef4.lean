/- ref1's Sum. -/
import Derived.Test.YtfihlmnbonnekaaGreatRefA
import Derived.Test.YtfihlmnbonnekaaGreatDigA
namespace Go.Proofs.YtfihlmnbonnekaaGreat
open Go.RowKit
set_option maxHeartbeats 32000000
theorem BytesAt.cells {w : World} {g o n c : Nat} {bs : List Int} (h : BytesAt w (.slice (some ⟨g, o, none⟩) n c) bs) : ∀ i, i < bs.length → w.cell? ⟨g, o + i, none⟩ = some (.int .u8 (bs[i]?.getD 0)) := by
 rcases h.cell with ⟨_, h1⟩ | ⟨b, off, cap, h1, _, h3⟩
 · intro i hi; subst h1; simp at hi
 · intro i hi
   cases h1
   exact h3 i hi
theorem BytesAt.some {w : World} {p : Option Addr} {n c : Nat} {bs : List Int} (h : BytesAt w (.slice p n c) bs) (hp : 0 < bs.length) : ∃ g o, p = some ⟨g, o, none⟩ := by
 rcases h.cell with ⟨_, h2⟩ | ⟨b, off, cap, h1, _, h3⟩
 · subst h2; simp at hp
 · cases h1
   exact ⟨_, _, rfl⟩
theorem and3 : ∀ i : Nat, i < 32 → bits BinOp.and IntKind.i64 (i : Int) 3 = ((i % 4 : Nat) : Int) := by decide +kernel
theorem St.bytes_get (s : St) {i : Nat} (h : i < 32) : s.bytes.take (i + 1) = s.bytes.take i ++ [(s.l[i / 4]?.getD 0) / 2 ^ (24 - 8 * (i % 4)) % 256] := by
 have : ∀ i : Nat, i < 32 → s.bytes[i]? = some ((s.l[i / 4]?.getD 0) / 2 ^ (24 - 8 * (i % 4)) % 256) := by
  intro i h
  have h4 : i = 4 * (i / 4) + i % 4 := by omega
  have ha : i / 4 < 8 := by omega
  have hb : i % 4 < 4 := by omega
  generalize i / 4 = a at *
  generalize i % 4 = b at *
  subst h4
  rcases a with _ | _ | _ | _ | _ | _ | _ | _ | _ <;> first | omega | (rcases b with _ | _ | _ | _ | _ <;> first | omega | simp [St.bytes, bytes4, St.l, w8])
 rw [List.take_add_one, this i h]
 rfl
set_option maxRecDepth 100000 in
theorem refSum_any (w : World) (v : Value) (bs : List Int) (hv : BytesAt w v bs) (hlt : ∀ k, blk v = some k → k < w.heap.size) (hB : bs.length ≤ 70368744177664) :
 Calls Tryz.prog 62 #[v] w fun e w' => e = .returned (.agg (u8s (sha bs)).toArray) ∧ Own w w' [] := by
 have H := Own.refl w
 have hv' : Hid (∀ w1 L, Own w w1 L → (∀ k ∈ L.map (·.1), w.heap.size ≤ k) → SlAt w1 v bs.length (u8s bs)) := fun w1 L h1 hk => SlAt.own hv h1 (fun j hj hm => by have := hlt j hj; have := hk j hm; omega)
 obtain ⟨n, hn⟩ : ∃ n, n = bs.length := ⟨_, rfl⟩
 have hlv : ∃ p c, v = .slice p n c := by
  rcases hv.cell with ⟨⟨p, rfl⟩, rfl⟩ | ⟨b, off, cap, rfl, _, _⟩
  · exact ⟨p, 0, by rw [hn]; rfl⟩
  · exact ⟨_, _, by rw [hn]⟩
 obtain ⟨pv, cv, rfl⟩ := hlv
 have hn' := Hh hn
 have hN : n ≤ 70368744177664 := by omega
 have hl1 : Hid (([] : List Int).length + bs.length = n) := by show _ = _; rw [hn]; simp
 have hl2 : Hid ((([] : List Int) ++ bs).length = n) := by show _ = _; rw [hn]; rfl
 clear hv hlt hB hn
 have tok : True := trivial
 go_enter Tryz.func62, Tryz.ntmps62
 go_wp2_with (first
  | (refine st_new rfl (rn_alloc H rfl info_hash) ?_; clear H; intro r w1 hr1 H)
  | (clear tok; refine st_new rfl (rn_buildSlice (e := 5) (cs := u8s []) H rfl (fun w' => by kernel_rfl)) ?_; clear H; intro b w4 hb H; have B : Buf 5 .u8 w w4 [(r, u8s (List.replicate 32 0), 24)] (.slice (some ⟨b, 0, none⟩) 0 0) [] := Buf.lit (xs := []) H hb (by decide); clear H)
  | (refine st_app (ys := bs) rfl B elem_u8 rfl rfl rfl rfl (hv'.out _ _ B.own0 (by simp; omega)) (by rw [hl1.out]; omega) (by rw [hl1.out]; omega) ?_; clear B; intro p6 c6 w6 B; rw [hl1.out] at B; rw [hl1.out])
  | (refine st_lit rfl B rfl (cs := u8s [128]) (el := 5) (fun w' => by kernel_rfl) ?_; clear B; intro b2 w5 hb2 B)
  | (refine st_app (ys := [128]) rfl B elem_u8 rfl rfl rfl rfl (B.litAt (.head _) rfl) (by rw [hl2.out]; simp; omega) (by rw [hl2.out]; simp; omega) ?_; clear B; intro p7 c7 w7 B; rw [hl2.out] at B; rw [hl2.out]))
 have B1 : Buf 5 .u8 w w7 [(r, u8s (List.replicate 32 0), 24)] (.slice p7 (n + 1) c7) (bs ++ 128 :: List.replicate 0 0) := B.pop hb2
 clear B hl1 hl2 hb2 hb
 have hz : padN n < 64 := by unfold padN; omega
 have hz56 : (n + (1 + padN n)) % 64 = 56 := by unfold padN; omega
 have hzne : Hid (∀ k, k < padN n → (n + (1 + k)) % 64 ≠ 56) := by intro k hk; unfold padN at hk; omega
 have hpad : Hid (pad n = 0x80 :: (List.replicate (padN n) 0 ++ bytes8 (((n : Int) * 8) % 18446744073709551616))) := rfl
 generalize padN n = z at hz hz56 hzne hpad
 have hz56' := Hh hz56
 clear hz56
 go_loopw [3] (fun v3 wr => ∃ k p cp, k ≤ z ∧ v3 = .slice p (n + 1 + k) cp ∧ Buf 5 .u8 w wr [(r, u8s (List.replicate 32 0), 24)] v3 (bs ++ 128 :: List.replicate k 0)) (fun v3 _ => n + 200 - lenV v3)
 case atStart => exact ⟨0, _, _, by omega, rfl, B1⟩
 case round =>
  clear B1
  obtain ⟨k, p, cp, hk, rfl, B⟩ := hrel
  have hl : Hid ((bs ++ 128 :: List.replicate k (0 : Int)).length = n + 1 + k) := by show _ = _; rw [hn'.out]; simp; omega
  have hnx : Hid (bs ++ 128 :: List.replicate k (0 : Int) ++ [0] = bs ++ 128 :: List.replicate (k + 1) 0) := by show _ = _; rw [List.append_assoc, List.cons_append, List.replicate_succ']
  by_cases hkz : k < z
  · have hne := hzne.out k hkz
    have hne' : ¬ (((n : Int) + 1 + (k : Int)) % 64 = 56) := by omega
    clear hne
    go_wp2_with (first
     | (refine st_lit rfl B rfl (cs := u8s [0]) (el := 5) (fun w' => by kernel_rfl) ?_; clear B; intro b2 w5 hb2 B)
     | (refine st_app (ys := [0]) rfl B elem_u8 rfl rfl rfl rfl (B.litAt (.head _) rfl) (by rw [hl.out]; simp; omega) (by rw [hl.out]; simp; omega) ?_; clear B; intro p6 c6 w6 B; rw [hl.out, hnx.out] at B; rw [hl.out]))
    exact ⟨⟨k + 1, _, _, by omega, rfl, B.pop hb2⟩, by simp [lenV]; omega⟩
  · obtain rfl : k = z := by omega
    have h56 := hz56'.out
    have h56' : ((n : Int) + 1 + (k : Int)) % 64 = 56 := by omega
    have htot : (n + 1 + k + 8) % 64 = 0 := by omega
    clear h56
    go_wp2_with (fail)
    clear hzne hz56' h56'
    have hq : ∃ q, q = bs ++ 128 :: List.replicate k (0 : Int) ∧ q.length = n + 1 + k := ⟨_, rfl, hl.out⟩
    obtain ⟨q, hq1, hq2⟩ := hq
    have hm8 : ((n : Int) * 8) % 18446744073709551616 = (n : Int) * 8 := by omega
    have hpad' : Hid (bs ++ pad n = q ++ bytes8 ((n : Int) * 8)) := by show _ = _; rw [hpad.out, hq1, hm8, List.append_assoc]; rfl
    clear hm8
    rw [← hq1] at B
    clear hpad hl hnx hq1
    have h8 := Hh (length_bytes8 ((n : Int) * 8))
    have hget : Hid (∀ j, j < 8 → (bytes8 ((n : Int) * 8)).take (j + 1) = (bytes8 ((n : Int) * 8)).take j ++ [(n : Int) * 8 / 2 ^ (8 * (7 - j)) % 256]) := fun j hj => by
     rw [bytes8_get _ hj]; rfl
    generalize bytes8 ((n : Int) * 8) = e8 at hpad' h8 hget
    have hq2' := Hh hq2
    clear hq2
    go_loopw [3, 5] (fun v3 v5 wr => ∃ j p cp, j ≤ 8 ∧ v3 = .slice p (n + 1 + k + j) cp ∧ v5 = .int .i64 (7 - (j : Int)) ∧ Buf 5 .u8 w wr [(r, u8s (List.replicate 32 0), 24)] v3 (q ++ e8.take j)) (fun _ v5 _ => (intOf v5 + 8).toNat)
    case atStart => exact ⟨0, _, _, by omega, rfl, rfl, by simpa using B⟩
    case round =>
     clear B
     obtain ⟨j, p, cp, hj, rfl, rfl, B⟩ := hrel
     by_cases hj8 : j < 8
     · have hl2 : Hid ((q ++ e8.take j).length = n + 1 + k + j) := by show _ = _; have := hq2'.out; have := h8.out; simp; omega
       have hnx2 : Hid (q ++ e8.take j ++ [(n : Int) * 8 / 2 ^ (8 * (7 - j)) % 256] = q ++ e8.take (j + 1)) := by show _ = _; rw [hget.out j hj8, List.append_assoc]
       go_wp2_with (first
        | (refine st_lit rfl B rfl (cs := u8s [(n : Int) * 8 / 2 ^ (8 * (7 - j)) % 256]) (el := 5) (fun w' => by kernel_rfl) ?_; clear B; intro b2 w5 hb2 B)
        | (refine st_app (ys := [(n : Int) * 8 / 2 ^ (8 * (7 - j)) % 256]) rfl B elem_u8 rfl rfl rfl rfl (B.litAt (.head _) rfl) (by rw [hl2.out]; simp; omega) (by rw [hl2.out]; simp; omega) ?_; clear B; intro p6 c6 w6 B; rw [hl2.out, hnx2.out] at B; rw [hl2.out]))
       refine ⟨⟨j + 1, _, _, by omega, rfl, by go_num, B.pop hb2⟩, by simp [intOf]; omega⟩
     · obtain rfl : j = 8 := by omega
       obtain ⟨Lv, hs, H0, hf⟩ := B
       have hall : Hid (q ++ e8.take 8 = bs ++ pad n) := by show _ = _; rw [hpad'.out, List.take_of_length_le (by rw [h8.out]; omega)]
       rw [hall.out] at hs
       obtain ⟨M, hM⟩ : ∃ M, M = bs ++ pad n := ⟨_, rfl⟩
       have hMl : M.length = n + 1 + k + 8 := by have := hq2'.out; have := h8.out; rw [hM, hpad'.out, List.length_append]; omega
       have hsha : Hid (sha bs = (comps st0 M 0 (M.length / 64)).bytes) := by show _ = _; unfold sha; rw [hM, hn'.out]
       rw [← hM] at hs
       have hsl : Hid (∀ w' L', Own w w' (L' ++ Lv) → BytesAt w' (.slice p (n + 1 + k + 8) cp) M) := fun w' L' h1 => hs.slAt (h1.perm List.perm_append_comm)
       have H : Own w wr ([(r, u8s (List.replicate 32 0), 24)] ++ Lv) := H0.perm List.perm_append_comm
       have hp := (hsl.out wr [(r, u8s (List.replicate 32 0), 24)] H).some (by rw [hMl]; omega)
       obtain ⟨g, og, rfl⟩ := hp
       have hf' := Hh hf
       obtain ⟨nb, hnb⟩ : ∃ nb, nb = M.length / 64 := ⟨_, rfl⟩
       have htn : n + 1 + k + 8 = 64 * nb := by omega
       rw [← hnb] at hsha
       have hMl' := Hh hMl
       have htn' := Hh htn
       clear hs H0 hf hall hM hMl hnb hpad' h8 hget hq2' htn htot
       go_wp2_with (first
        | (refine st_val rfl (rn_build (cs := u32s st0.l) rfl (by kernel_rfl)) ?_)
        | (refine st_new rfl (rn_alloc H rfl info_a8) ?_; clear H; intro h w8 hh8 H)
        | (refine st_skip rfl (rn_storeAll H rfl rfl rfl size_a8 .head rfl (oneCell_ints _ _)) ?_; clear H; intro w9 H))
       have H1 : Own w w9 ([(h, u32s st0.l, 136), (r, u8s (List.replicate 32 0), 24)] ++ Lv) := H
       clear H
       have hmax : Hid (n + 1 + k + 8 ≤ 140737488351232) := by show _ ≤ _; omega
       go_loopw [7] (fun v7 wr => ∃ kb, kb ≤ nb ∧ v7 = .int .i64 (64 * (kb : Int)) ∧ Own w wr ([(h, u32s (comps st0 M 0 kb).l, 136), (r, u8s (List.replicate 32 0), 24)] ++ Lv)) (fun v7 _ => (64 * (nb : Int) + 64 - intOf v7).toNat)
       case atStart => exact ⟨0, by omega, rfl, H1⟩
       case round =>
        clear H1
        obtain ⟨kb, hkb, rfl, H⟩ := hrel
        by_cases hkn : kb < nb
        · have hcs : Hid (comp (comps st0 M 0 kb) M (64 * kb) = comps st0 M 0 (kb + 1)) := by show _ = comp (comps st0 M 0 kb) M (0 + 64 * kb); rw [Nat.zero_add]
          have hcl := Hh ((hsl.out _ _ H).cells)
          generalize comps st0 M 0 kb = sk at H hcs
          have hlt : 64 * kb + 64 ≤ n + 1 + k + 8 := by have := htn'.out; omega
          have hpk : ((64 * kb : Nat) : Int) = 64 * (kb : Int) := by omega
          have hcall : Hid (∀ w1, Own wr w1 [] → Calls Tryz.prog 87 #[.agg (u32s sk.l).toArray, .slice (some ⟨g, og, none⟩) (n + 1 + k + 8) cp, .int .i64 (64 * (kb : Int))] w1 fun e w' => e = .returned (.agg (u32s (comp sk M (64 * kb)).l).toArray) ∧ Own w1 w' []) := by
           intro w1 h1
           rw [← hpk]
           exact refblock_any w1 sk g og (n + 1 + k + 8) cp (64 * kb) M hlt hmax.out (fun i hi => by
            have h2 := hcl.out i (by rw [hMl'.out]; exact hi)
            exact h1.old h2 (by simp))
          clear hpk hcl
          go_wp2_with (first
           | (refine st_val rfl (rn_loadAll H rfl rfl (.head _) rfl rfl size_a8) ?_)
           | (go_at_call 87; refine (hcall.out _ (Own.refl _)).mono ?_; rintro e w2 ⟨rfl, h2⟩; rw [hcs.out]; have H2 := H.call0 h2; clear H h2 hcall; have H := H2; clear H2)
           | (refine st_skip rfl (rn_storeAll H rfl rfl rfl size_a8 .head rfl (oneCell_ints _ _)) ?_; clear H; intro w8 H))
          exact ⟨⟨kb + 1, by omega, by go_num, H⟩, by simp [intOf]; omega⟩
        · obtain rfl : kb = nb := by omega
          generalize comps st0 M 0 kb = sk at H hsha
          have hge : n + 1 + k + 8 ≤ 64 * kb := by have := htn'.out; omega
          go_wp2_with (first
           | (refine st_new rfl (rn_alloc H rfl info_hash) ?_; clear H; intro o w8 hh8 H))
          have hbs := Hh (fun i hi => St.bytes_get sk (i := i) hi)
          have hskl : Hid (sk.l.length = 8) := rfl
          clear hge hsl hMl' htn'
          have H1 : Own w w8 ([(o, u8s (List.replicate 32 0), 24), (h, u32s sk.l, 136), (r, u8s (List.replicate 32 0), 24)] ++ Lv) := H
          clear H
          go_loopw [9] (fun v9 wr => ∃ i os, i ≤ 32 ∧ v9 = .int .i64 ((i : Nat) : Int) ∧ os.length = 32 ∧ os.take i = sk.bytes.take i ∧ Own w wr ([(o, u8s os, 24), (h, u32s sk.l, 136), (r, u8s (List.replicate 32 0), 24)] ++ Lv)) (fun v9 _ => (32 - intOf v9).toNat)
          case atStart => exact ⟨0, List.replicate 32 0, by omega, rfl, rfl, rfl, H1⟩
          case round =>
           clear H1
           obtain ⟨i, os, hi, rfl, hos, htk, H⟩ := hrel
           have hos' := Hh hos
           clear hos
           by_cases hi8 : i < 32
           · have htk' := Hh htk
             clear htk
             have e3 := and3 i hi8
             go_wp2_with (first
                    | (refine st_val rfl (rn_loadI H rfl rfl (.tail _ (.head _)) rfl rfl (by rw [hskl.out]; omega)) ?_)
                    | (refine st_skip rfl (rn_storeI H rfl rfl rfl size_u8 .head (by rw [hos'.out]; omega)) ?_; clear H; intro w8 H))
             refine ⟨⟨i + 1, _, by omega, by go_num, ?_, ?_, H⟩, by simp [intOf]; omega⟩
             · simp [hos'.out]
             · rw [hbs.out i hi8]
               exact take_set htk'.out (by rw [hos'.out]; omega)
           · obtain rfl : i = 32 := by omega
             have hos8 : Hid (os = sk.bytes) := by
                    show _ = _
                    rw [List.take_of_length_le (by rw [hos'.out]; omega), List.take_of_length_le (by rw [St.length_bytes]; omega)] at htk
                    exact htk
             have hlo : Hid ((u8s os).length = 32) := by show _ = _; simpa [ints] using hos'.out
             have hszo : Hid ((Tryz.prog.info? 24).map (·.size) = some (u8s os).length) := by show _ = _; rw [hlo.out]; exact size_hash
             clear htk
             go_wp2_with (first
                    | (refine st_val rfl (rn_loadAll H rfl rfl (.head _) rfl rfl hszo.out) ?_)
                    | (refine st_skip rfl (rn_storeAll H rfl rfl rfl hszo.out (.tail (.tail .head)) (by rw [hlo.out]; rfl) (oneCell_ints _ _)) ?_; clear H; intro w8 H))
             refine fin_cell rfl H rfl (.tail _ (.tail _ (.head _))) rfl rfl hszo.out rfl ⟨?_, H.end0 ?_⟩
             · rw [hsha.out, hos8.out]
             · intro j hj
               simp only [List.map_cons, List.mem_cons] at hj
               rcases hj with rfl | rfl | rfl | hj
               · assumption
               · assumption
               · assumption
               · exact hf'.out j hj
end Go.Proofs.YtfihlmnbonnekaaGreat
