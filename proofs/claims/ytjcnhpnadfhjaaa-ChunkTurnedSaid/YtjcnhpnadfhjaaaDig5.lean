/- sha's digests: Sum of a nil digest. -/
import Derived.Test.YtjcnhpnadfhjaaaDig4
namespace Go.Proofs.Ytjcnhpnadfhjaaa
open Go.RowKit

set_option maxRecDepth 100000 in
set_option maxHeartbeats 400000 in
theorem copy_nil (w : World) : Calls Try.prog 34 #[.pointer none] w fun e w' => e = .returned (.pointer none) ∧ Own w w' [] := by
  have H := Own.refl w
  go_enter Try.func34, Try.ntmps34
  go_wp2
  go_ret
  exact ⟨rfl, H⟩

set_option maxRecDepth 100000 in
set_option maxHeartbeats 2000000 in
theorem sum_nil (w : World) :
    Calls Try.prog 30 #[.pointer none] w fun e w' => e = .returned (.agg (u8s (sha [])).toArray) ∧ Own w w' [] := by
  obtain ⟨xs, hxs⟩ : ∃ xs : List Int, xs = [] := ⟨_, rfl⟩
  obtain ⟨st, hst⟩ : ∃ st : St, st = st0 := ⟨_, rfl⟩
  obtain ⟨rest, hrest⟩ : ∃ rest : List Int, rest = List.replicate 64 0 := ⟨_, rfl⟩
  have hd' : Hid (DigOf xs st rest) := by rw [hxs, hst, hrest]; exact DigOf.nil
  have hr : rest.length = 64 := by rw [hrest]; rfl
  have H := Own.refl w
  have hn : xs.length = 0 := by rw [hxs]; rfl
  have hxs' : Hid (([] : List Int) = xs) := hxs.symm
  rw [hxs'.out]
  obtain ⟨n, hn0⟩ : ∃ n : Nat, n = 0 := ⟨_, rfl⟩
  rw [← hn0] at hn
  have hN : n ≤ 140737488351232 := by omega
  have hdn := Lib.hid (dig_n (st := st) (n := n) hr)
  have hn' := Lib.hid hn
  have hnew : Hid (digCells st0 (List.replicate 64 0) 0 = digCells st rest n) := by show _ = _; rw [hst, hrest, hn0]
  clear hn hxs hst hrest hn0
  go_enter Try.func30, Try.ntmps30
  go_wp2_with (first
    | (refine st_new rfl (rn_alloc H rfl info_hash) ?_; clear H; intro r w1 hr1 H)
    | (go_at_call 34; refine (copy_nil _).mono ?_; rintro e w2 ⟨rfl, h2⟩; have H2 := H.call0 h2; clear H h2; have H := H2; clear H2)
    | (go_at_call 28; refine (new_any _).mono ?_; rintro e w2 ⟨c, rfl, hc, h2⟩; have H2 := H.call (L1 := []) (L := [(r, u8s (List.replicate 32 0), 35)]) (Upd.of_own h2 (by simpa using hc)) (by simp); have hc0 : w.heap.size ≤ c := Nat.le_trans H.size hc; rw [hnew.out] at H2; clear H h2; have H : Own w w2 [(c, digCells st rest n, 67), (r, u8s (List.replicate 32 0), 35)] := H2; clear H2)
    | (refine st_val rfl (rn_load H rfl rfl (.head _) rfl rfl hdn.out) ?_)
    | (refine st_new rfl (rn_buildSlice (e := 5) (cs := u8s [128]) H rfl (fun w' => by kernel_rfl)) ?_; clear H; intro b w4 hb H))
  have B : Buf 5 .u8 w w4 [(c, digCells st rest n, 67), (r, u8s (List.replicate 32 0), 35)] (.slice (some ⟨b, 0, none⟩) 1 1) [128] := Buf.lit (xs := [128]) H hb (by decide)
  clear H hb hc
  have hz : padN n < 64 := by unfold padN; omega
  have hz56 : (n + (1 + padN n)) % 64 = 56 := by unfold padN; omega
  have hzne : Hid (∀ k, k < padN n → (n + (1 + k)) % 64 ≠ 56) := by intro k hk; unfold padN at hk; omega
  have hpad : Hid (pad n = 0x80 :: (List.replicate (padN n) 0 ++ bytes8 (((n : Int) * 8) % 18446744073709551616))) := rfl
  generalize padN n = z at hz hz56 hzne hpad
  have hz56' := Lib.hid hz56
  clear hz56
  go_loopw [5] (fun v5 wr => ∃ k p cp, k ≤ z ∧ v5 = .slice p (1 + k) cp ∧ Buf 5 .u8 w wr [(c, digCells st rest n, 67), (r, u8s (List.replicate 32 0), 35)] v5 (128 :: List.replicate k 0)) (fun v5 _ => 200 - lenV v5)
  case atStart => exact ⟨0, _, _, by omega, rfl, B⟩
  case round =>
    clear B
    obtain ⟨k, p, cp, hk, rfl, B⟩ := hrel
    have hl : Hid ((128 :: List.replicate k (0 : Int)).length = 1 + k) := by show _ = _; simp; omega
    have hnx : Hid ((128 :: List.replicate k (0 : Int)) ++ [0] = 128 :: List.replicate (k + 1) 0) := by show _ = _; rw [List.cons_append, List.replicate_succ']
    by_cases hkz : k < z
    · have hne := hzne.out k hkz
      have hne' : ¬ (((n : Int) + (1 + (k : Int))) % 64 = 56) := by omega
      clear hne
      go_wp2_with (first
        | (refine st_lit rfl B rfl (cs := u8s [0]) (el := 5) (fun w' => by kernel_rfl) ?_; clear B; intro b2 w5 hb2 B)
        | (refine st_app (ys := [0]) rfl B elem_u8 rfl rfl rfl rfl (B.litAt (.head _) rfl) (by rw [hl.out]; simp; omega) (by rw [hl.out]; simp; omega) ?_; clear B; intro p6 c6 w6 B; rw [hl.out, hnx.out] at B; rw [hl.out]))
      exact ⟨⟨k + 1, _, _, by omega, rfl, B.pop hb2⟩, by simp [lenV]; omega⟩
    · obtain rfl : k = z := by omega
      have h56 := hz56'.out
      have h56' : ((n : Int) + (1 + (k : Int))) % 64 = 56 := by omega
      clear h56
      go_wp2_with (fail)
      clear hzne hz56' h56'
      have hq : ∃ q, q = 128 :: List.replicate k (0 : Int) ∧ q.length = 1 + k := ⟨_, rfl, hl.out⟩
      obtain ⟨q, hq1, hq2⟩ := hq
      have hm8 : ((n : Int) * 8) % 18446744073709551616 = (n : Int) * 8 := by omega
      have hpad' : Hid (pad n = q ++ bytes8 ((n : Int) * 8)) := by show _ = _; rw [hpad.out, hq1, hm8]; rfl
      clear hm8
      rw [← hq1] at B
      clear hpad hl hnx hq1
      have h8 := Lib.hid (length_bytes8 ((n : Int) * 8))
      have hget : Hid (∀ j, j < 8 → (bytes8 ((n : Int) * 8)).take (j + 1) = (bytes8 ((n : Int) * 8)).take j ++ [(n : Int) * 8 / 2 ^ (56 - 8 * j) % 256]) := fun j hj => by
        rw [bytes8_get _ hj, show 8 * (7 - j) = 56 - 8 * j by omega]; rfl
      generalize bytes8 ((n : Int) * 8) = e8 at hpad' h8 hget
      have hq2' := Lib.hid hq2
      clear hq2
      go_loopw [5, 6] (fun v5 v6 wr => ∃ j p cp, j ≤ 8 ∧ v5 = .slice p (1 + k + j) cp ∧ v6 = .int .i64 (56 - 8 * (j : Int)) ∧ Buf 5 .u8 w wr [(c, digCells st rest n, 67), (r, u8s (List.replicate 32 0), 35)] v5 (q ++ e8.take j)) (fun _ v6 _ => (intOf v6 + 8).toNat)
      case atStart => exact ⟨0, _, _, by omega, rfl, rfl, by simpa using B⟩
      case round =>
        clear B
        obtain ⟨j, p, cp, hj, rfl, rfl, B⟩ := hrel
        by_cases hj8 : j < 8
        · have hl2 : Hid ((q ++ e8.take j).length = 1 + k + j) := by show _ = _; have := hq2'.out; have := h8.out; simp; omega
          have hnx2 : Hid (q ++ e8.take j ++ [(n : Int) * 8 / 2 ^ (56 - 8 * j) % 256] = q ++ e8.take (j + 1)) := by show _ = _; rw [hget.out j hj8, List.append_assoc]
          go_wp2_with (first
            | (refine st_lit rfl B rfl (cs := u8s [(n : Int) * 8 / 2 ^ (56 - 8 * j) % 256]) (el := 5) (fun w' => by kernel_rfl) ?_; clear B; intro b2 w5 hb2 B)
            | (refine st_app (ys := [(n : Int) * 8 / 2 ^ (56 - 8 * j) % 256]) rfl B elem_u8 rfl rfl rfl rfl (B.litAt (.head _) rfl) (by rw [hl2.out]; simp; omega) (by rw [hl2.out]; simp; omega) ?_; clear B; intro p6 c6 w6 B; rw [hl2.out, hnx2.out] at B; rw [hl2.out]))
          refine ⟨⟨j + 1, _, _, by omega, rfl, by go_num, B.pop hb2⟩, by simp [intOf]; omega⟩
        · obtain rfl : j = 8 := by omega
          have hpl : Hid ((pad n).length = 1 + k + 8) := by show _ = _; have := hq2'.out; have := h8.out; rw [hpad'.out]; simp; omega
          have he8 : Hid (q ++ e8.take 8 = pad n) := by show _ = _; rw [hpad'.out, List.take_of_length_le (by rw [h8.out]; omega)]
          have hw : Hid (BytesAt wr (.slice p (1 + k + 8) cp) (pad n)) := by
            show BytesAt _ _ _
            have h := B.slAt
            rw [he8.out] at h
            exact h
          have hx8 : Hid (∀ e w', Own wr w' e → True) := fun _ _ _ => trivial
          have hwr := Lib.hid (write_any wr c st rest xs (pad n) (.slice p (1 + k + 8) cp) hd'.out (by rw [hn'.out]; exact hN) (by rw [hpl.out]; omega) (by rw [hn'.out]; exact B.sub1 (.head _)) hw.out (fun j hj hjc => B.ne hj (by simp [hjc])))
          have hfin : Hid (∀ st' rest', DigOf (xs ++ pad n) st' rest' → sha xs = st'.bytes) := fun st' rest' h => by
            unfold sha; rw [hn'.out]; exact congrArg St.bytes h.1.symm
          have hn2 := hn'.out
          rw [hn2, hpl.out] at hwr
          clear hn2 he8 hw hx8 hq2' h8 hget hpad' hd'
          go_wp2_with (first
            | (go_at_call 29; refine hwr.out.mono ?_; rintro e w3 ⟨rfl, st', rest', hd3, ho3⟩; have H := (B.call1 ho3).own0; clear B ho3 hwr)
            | (refine st_new rfl (rn_alloc H rfl info_hash) ?_; clear H; intro o w7 ho7 H)
            | (refine st_val rfl (rn_loadRow (vs := u32s st'.l) H rfl rfl (.tail _ (.head _)) rfl rfl size_a8 rfl) ?_))
          have hf2 := Lib.hid (hfin.out st' rest' hd3)
          have hbs := Lib.hid (fun i hi => St.bytes_step st' (i := i) hi)
          clear hfin hd3
          have hn4 : 1 + k + 8 ≤ 200 := by omega
          generalize n + (1 + k + 8) = n3 at H
          go_loopw [50] (fun v50 wr => ∃ i os, i ≤ 8 ∧ v50 = .int .i64 ((i : Nat) : Int) ∧ os.length = 32 ∧ os.take (4 * i) = st'.bytes.take (4 * i) ∧ Own w wr [(o, u8s os, 35), (c, digCells st' rest' n3, 67), (r, u8s (List.replicate 32 0), 35)]) (fun v50 _ => (8 - intOf v50).toNat)
          case atStart => exact ⟨0, List.replicate 32 0, by omega, rfl, rfl, rfl, H⟩
          case round =>
            clear H
            obtain ⟨i, os, hi, rfl, hos, htk, H⟩ := hrel
            by_cases hi8 : i < 8
            · have htk' := Lib.hid htk
              have hos' := Lib.hid hos
              clear htk hos
              have hl8 : Hid (st'.l.length = 8) := rfl
              go_wp2_with (first
                | (refine st_val rfl (rn_idxAgg (cs := st'.l) rfl rfl size_u32 rfl rfl rfl rfl (by omega) (by rw [hl8.out]; omega) hl8.out) ?_)
                | (refine st_skip rfl (rn_storeI H rfl rfl rfl size_u8 .head (by simp only [List.length_set, hos'.out]; omega)) ?_; clear H; intro w8 H))
              refine ⟨⟨i + 1, _, by omega, by go_num, ?_, ?_, H⟩, by simp [intOf]; omega⟩
              · simp [hos'.out]
              · rw [show 4 * (i + 1) = 4 * i + 3 + 1 by omega, hbs.out i hi8]
                have h1 := take_set (v := st'.l[i]?.getD 0 / 16777216 % 256) htk'.out (by rw [hos'.out]; omega)
                have h2 := take_set (v := st'.l[i]?.getD 0 / 65536 % 256) h1 (by simp [hos'.out]; omega)
                have h3 := take_set (v := st'.l[i]?.getD 0 / 256 % 256) h2 (by simp [hos'.out]; omega)
                have h4 := take_set (v := st'.l[i]?.getD 0 % 256) h3 (by simp [hos'.out]; omega)
                exact h4
            · obtain rfl : i = 8 := by omega
              have hos8 : Hid (os = st'.bytes) := by
                show _ = _
                rw [List.take_of_length_le (by omega), List.take_of_length_le (by rw [St.length_bytes]; omega)] at htk
                exact htk
              have hlo : Hid ((u8s os).length = 32) := by show _ = _; simpa [ints] using hos
              have hszo : Hid ((Try.prog.info? 35).map (·.size) = some (u8s os).length) := by show _ = _; rw [hlo.out]; exact size_hash
              clear htk hos
              go_wp2_with (first
                | (refine st_val rfl (rn_loadAll H rfl rfl (.head _) rfl rfl hszo.out) ?_)
                | (refine st_skip rfl (rn_storeAll H rfl rfl rfl hszo.out (.tail (.tail .head)) (by rw [hlo.out]; rfl) (oneCell_ints _ _)) ?_; clear H; intro w8 H))
              refine fin_cell rfl H rfl (.tail _ (.tail _ (.head _))) rfl rfl hszo.out rfl ⟨?_, H.end0 (by simp; omega)⟩
              rw [hf2.out, hos8.out]

end Go.Proofs.Ytjcnhpnadfhjaaa
