/- What a digest holds, in plain Lean: blocks done, bytes left over; what writing more does to it. Nothing of the program here. And what stands on it. No condition. -/
import Derived.Test.YtfihlmnbonnekaaGreatShaA
import Derived.Laws.CopyOwn
import Derived.Test.YtfihlmnbonnekaaGreatLow
import Derived.Laws.BytesArg
namespace Go.Proofs.YtfihlmnbonnekaaGreat
set_option maxHeartbeats 32000000
theorem word_congr {as0 bs : List Int} {p q : Nat} (h : ∀ i, i < 4 → as0[p + i]?.getD 0 = bs[q + i]?.getD 0) : word as0 p = word bs q := by
 unfold word
 have h0 := h 0 (by omega); have h1 := h 1 (by omega); have h2 := h 2 (by omega); have h3 := h 3 (by omega)
 simp only [Nat.add_zero] at h0
 rw [h0, h1, h2, h3]
theorem words_congr {as0 bs : List Int} {p q : Nat} : ∀ n, (∀ i, i < 4 * n → as0[p + i]?.getD 0 = bs[q + i]?.getD 0) → words as0 p n = words bs q n
 | 0, _ => rfl
 | n + 1, h => by
   simp only [words]
   rw [words_congr n (fun i hi => h i (by omega)), word_congr (p := p + 4 * n) (q := q + 4 * n) (fun i hi => by
    have := h (4 * n + i) (by omega)
    rwa [← Nat.add_assoc, ← Nat.add_assoc] at this)]
theorem comp_congr {s : St} {as0 bs : List Int} {p q : Nat} (h : ∀ i, i < 64 → as0[p + i]?.getD 0 = bs[q + i]?.getD 0) : comp s as0 p = comp s bs q := by
 unfold comp
 rw [words_congr 16 h]
theorem comps_congr {s : St} {as0 bs : List Int} {p q : Nat} : ∀ n, (∀ i, i < 64 * n → as0[p + i]?.getD 0 = bs[q + i]?.getD 0) → comps s as0 p n = comps s bs q n
 | 0, _ => rfl
 | n + 1, h => by
   simp only [comps]
   rw [comps_congr n (fun i hi => h i (by omega)), comp_congr (p := p + 64 * n) (q := q + 64 * n) (fun i hi => by
    have := h (64 * n + i) (by omega)
    rwa [← Nat.add_assoc, ← Nat.add_assoc] at this)]
theorem comps_add (s : St) (bs : List Int) (p m : Nat) : ∀ n, comps s bs p (m + n) = comps (comps s bs p m) bs (p + 64 * m) n
 | 0 => rfl
 | n + 1 => by
   rw [← Nat.add_assoc]
   simp only [comps]
   rw [comps_add s bs p m n, show p + 64 * (m + n) = p + 64 * m + 64 * n by omega]
def DigOf (xs : List Int) (st : St) (rest : List Int) : Prop :=
 st = comps st0 xs 0 (xs.length / 64) ∧ rest.length = 64 ∧ rest.take (xs.length % 64) = xs.drop (64 * (xs.length / 64))
theorem DigOf.nil : DigOf [] st0 (List.replicate 64 0) := ⟨rfl, by simp, rfl⟩
theorem DigOf.few {xs bs : List Int} {st : St} {rest : List Int} (h : DigOf xs st rest) (hb : xs.length % 64 + bs.length < 64) :
 DigOf (xs ++ bs) st (splice rest (xs.length % 64) bs) := by
 obtain ⟨h1, h2, h3⟩ := h
 have hd : (xs ++ bs).length / 64 = xs.length / 64 := by simp; omega
 have hm : (xs ++ bs).length % 64 = xs.length % 64 + bs.length := by simp; omega
 refine ⟨?_, by rw [length_splice _ _ _ (by omega)]; exact h2, ?_⟩
 · rw [hd, h1]
   exact comps_congr _ (fun i hi => by rw [Nat.zero_add, List.getElem?_append_left (by omega)])
 · rw [hd, hm]
   unfold splice
   rw [List.drop_append_of_le_length (by omega), ← h3, ← List.append_assoc]
   have hl : (rest.take (xs.length % 64) ++ bs).length = xs.length % 64 + bs.length := by simp; omega
   rw [← hl, List.take_left]
theorem DigOf.many {xs bs : List Int} {st : St} {rest : List Int} {r : Nat} (h : DigOf xs st rest) (hr : (xs.length + r) % 64 = 0) (hr2 : r ≤ bs.length) (hr3 : 0 < xs.length % 64 ∧ r < 64 ∨ r = 0) {rest' : List Int} (hl' : rest'.length = 64)
 (ht : rest'.take ((bs.length - r) % 64) = bs.drop (r + 64 * ((bs.length - r) / 64))) :
 DigOf (xs ++ bs) (comps (if r = 0 then st else comps st (splice rest (xs.length % 64) (bs.take r)) 0 1) (bs.drop r) 0 ((bs.length - r) / 64)) rest' := by
 obtain ⟨h1, h2, h3⟩ := h
 refine ⟨?_, hl', ?_⟩
 ·
  have hA : (xs.length + r) / 64 = xs.length / 64 + (if r = 0 then 0 else 1) := by split <;> omega
  have hall : (xs ++ bs).length / 64 = (xs.length + r) / 64 + (bs.length - r) / 64 := by simp; omega
  rw [hall, comps_add]
  have e1 : comps st0 (xs ++ bs) 0 ((xs.length + r) / 64) = if r = 0 then st else comps st (splice rest (xs.length % 64) (bs.take r)) 0 1 := by
   rw [hA, comps_add]
   have e0 : comps st0 (xs ++ bs) 0 (xs.length / 64) = st := by
    rw [h1]
    exact comps_congr _ (fun i hi => by rw [Nat.zero_add, List.getElem?_append_left (by omega)])
   rw [e0]
   split
   · rfl
   · rename_i hr0
     refine comps_congr 1 (fun i hi => ?_)
     have hx : 0 < xs.length % 64 := by omega
     unfold splice
     by_cases hi1 : i < xs.length % 64
     · rw [List.getElem?_append_left (by simp; omega), List.getElem?_append_left (by simp; omega), h3, List.getElem?_drop]
       simp
     · by_cases hi2 : i < 64
       · have hlt : (rest.take (xs.length % 64)).length = xs.length % 64 := by simp; omega
         rw [List.getElem?_append_right (by omega), List.getElem?_append_right (by omega), hlt, List.getElem?_append_left (by simp; omega), List.getElem?_take_of_lt (by omega)]
         congr 2; omega
       · omega
  rw [e1]
  refine (comps_congr _ (fun i hi => ?_))
  rw [List.getElem?_append_right (by omega), List.getElem?_drop]
  congr 2; omega
 · have hm : (xs ++ bs).length % 64 = (bs.length - r) % 64 := by simp; omega
   have hq : 64 * ((xs ++ bs).length / 64) = xs.length + (r + 64 * ((bs.length - r) / 64)) := by simp; omega
   have e1 : (xs ++ bs).drop (xs.length + (r + 64 * ((bs.length - r) / 64))) = bs.drop (r + 64 * ((bs.length - r) / 64)) := by
    rw [← List.drop_drop, List.drop_left]
   rw [hm, hq, ht, e1]
end Go.Proofs.YtfihlmnbonnekaaGreat
namespace Go.Proofs.YtfihlmnbonnekaaGreat
open Go.RowKit
def digCells (st : St) (rest : List Int) (n : Nat) : List Value := u32s st.l ++ (u8s rest ++ [.int .u64 n])
theorem size_dig : (Tryz.prog.info? 161).map (·.size) = some 73 := by kernel_rfl
theorem info_dig : ((Tryz.prog.info? 161).bind (·.zero)).map (fun z => z.cells.toList) = some (u32s (List.replicate 8 0) ++ (u8s (List.replicate 64 0) ++ [.int .u64 0])) := by kernel_rfl
theorem length_digCells {st : St} {rest : List Int} {n : Nat} (h : rest.length = 64) : (digCells st rest n).length = 73 := by simp [digCells, St.l, h]
theorem oneCell_dig (st : St) (rest : List Int) (n : Nat) : ∀ v ∈ digCells st rest n, v.oneCell' = true := by
 intro v hv
 simp only [digCells, List.mem_append, List.mem_singleton] at hv
 rcases hv with hv | hv | rfl
 · exact oneCell_ints _ _ v hv
 · exact oneCell_ints _ _ v hv
 · rfl
theorem dig_n {st : St} {rest : List Int} {n : Nat} (h : rest.length = 64) : (digCells st rest n)[72]? = some (.int .u64 n) := by
 simp [digCells, St.l, h]
theorem dig_setN {st : St} {rest : List Int} {n m : Nat} (h : rest.length = 64) : (digCells st rest n).set 72 (.int .u64 m) = digCells st rest m := by
 simp [digCells, St.l, h]
theorem dig_splice {st : St} {rest ys : List Int} {n p : Nat} (h : rest.length = 64) (hp : p + ys.length ≤ 64) : splice (digCells st rest n) (8 + p) (u8s ys) = digCells st (splice rest p ys) n := by
 have h8 : (u32s st.l).length = 8 := by simp [St.l]
 unfold digCells splice
 rw [show 8 + p = (u32s st.l).length + p by omega, List.take_length_add_append, List.append_assoc]
 congr 1
 rw [show (u32s st.l).length + p + (u8s ys).length = (u32s st.l).length + (p + ys.length) by simp; omega, List.drop_length_add_append, List.drop_append_of_le_length (by simp; omega), List.take_append_of_le_length (by simp; omega)]
 simp [ints, List.map_take, List.map_drop]
theorem dig_rest {st : St} {rest : List Int} {n : Nat} (h : rest.length = 64) {i : Nat} (hi : i < 64) : (digCells st rest n)[8 + i]? = some (.int .u8 (rest[i]?.getD 0)) := by
 unfold digCells
 rw [List.getElem?_append_right (by simp [St.l]), show 8 + i - (u32s st.l).length = i by simp [St.l], List.getElem?_append_left (by simp; omega)]
 exact ints_get (by omega)
set_option maxRecDepth 100000 in
theorem first_any (w : World) : Calls Tryz.prog 105 #[] w fun e w' => e = .returned (.agg (u32s st0.l).toArray) ∧ Own w w' [] := by
 have H := Own.refl w
 go_enter Tryz.func105, Tryz.ntmps105
 go_wp2_with (first
  | (refine st_new rfl (rn_alloc H rfl info_a8) ?_; clear H; intro b0 w1 hb0 H)
  | (refine st_val rfl (rn_build (cs := u32s st0.l) rfl (by kernel_rfl)) ?_)
  | (refine st_skip rfl (rn_storeAll H rfl rfl rfl size_a8 .head rfl (oneCell_ints _ _)) ?_; clear H; intro w2 H))
 exact fin_cell rfl H rfl (.head _) rfl rfl size_a8 rfl ⟨rfl, H.end0 (by simp; omega)⟩
set_option maxRecDepth 100000 in
theorem new_any (w : World) : Calls Tryz.prog 97 #[] w fun e w' => ∃ d, e = .returned (.pointer (some ⟨d, 0, none⟩)) ∧ w.heap.size ≤ d ∧ Own w w' [(d, digCells st0 (List.replicate 64 0) 0, 161)] := by
 have H := Own.refl w
 go_enter Tryz.func97, Tryz.ntmps97
 go_wp2_with (first
  | (go_at_call 105; refine (first_any _).mono ?_; rintro e w1 ⟨rfl, h1⟩; have H1 := H.call0 h1; clear H h1; have H := H1; clear H1)
  | (refine st_val rfl (rn_build (cs := digCells st0 (List.replicate 64 0) 0) rfl (by kernel_rfl)) ?_)
  | (refine st_new rfl (rn_box (cs := digCells st0 (List.replicate 64 0) 0) H rfl rfl (by kernel_rfl)) ?_; clear H; intro d w2 hd H))
 go_ret
 exact ⟨d, rfl, hd, H⟩
set_option maxRecDepth 100000 in
theorem copy_any (w : World) (d : Nat) (st : St) (rest : List Int) (n : Nat) (hr : rest.length = 64) (H : Own w w [(d, digCells st rest n, 161)]) :
 Calls Tryz.prog 107 #[.pointer (some ⟨d, 0, none⟩)] w fun e w' => ∃ c, e = .returned (.pointer (some ⟨c, 0, none⟩)) ∧ w.heap.size ≤ c ∧ Own w w' [(c, digCells st rest n, 161)] := by
 have hlen := length_digCells (st := st) (n := n) hr
 have hsz : Hid ((Tryz.prog.info? 161).map (·.size) = some (digCells st rest n).length) := by rw [hlen]; exact size_dig
 have h0 := H
 have hdlt := H.lt (.head _)
 go_enter Tryz.func107, Tryz.ntmps107
 go_wp2_with (first
  | (refine st_val rfl (rn_loadAll H rfl rfl (.head _) rfl rfl hsz.out) ?_)
  | (refine st_new rfl (rn_alloc H rfl info_dig) ?_; clear H; intro c w1 hc H)
  | (refine st_skip rfl (rn_storeAll H rfl rfl rfl hsz.out .head (by rw [hlen]; rfl) (oneCell_dig _ _ _)) ?_; clear H; intro w2 H))
 go_ret
 refine ⟨c, rfl, hc, ?_⟩
 exact Own.unturned (L1 := [(c, digCells st rest n, 161)]) (L2 := []) H (h0.here _ _ _ (.head _))
theorem Own.src_rest {w : World} {d : Nat} {rest : List Int} {n : Nat} (hr : rest.length = 64) : Src (fun w' => ∃ s' : St, Own w w' [(d, u32s s'.l ++ (u8s rest ++ [.int .u64 n]), 161)]) (.slice (some ⟨d, 8, none⟩) 64 64) rest := by
 refine Or.inr ⟨d, 8, 64, by rw [hr], by omega, fun w' ⟨s', h⟩ i hi => ?_⟩
 rw [h.cell (.head _)]
 exact dig_rest (st := s') (n := n) hr (by omega)
theorem Src.of_bytes {w : World} {L : St → List Ent} {v : Value} {bs : List Int} (h : BytesAt w v bs) (hn : ∀ k, blk v = some k → ∀ s, k ∉ (L s).map (·.1)) : Src (fun w' => ∃ s' : St, Own w w' (L s')) v bs := by
 rcases h.cell with h | ⟨b, off, cap, rfl, h2, h3⟩
 · exact Or.inl h
 · exact Or.inr ⟨b, off, cap, rfl, h2, fun w' ⟨s', ho⟩ i hi => ho.old (h3 i hi) (hn b (by simp [blk]; omega) s')⟩
theorem Own.src_of {w : World} {d : Nat} {rest : List Int} {n : Nat} : ∀ (w1 : World) (v : Value) (bs : List Int) {st : St}, Own w w1 [(d, digCells st rest n, 161)] → BytesAt w v bs → (∀ k, blk v = some k → k ≠ d) →
 Src (fun w' => ∃ s' : St, Own w1 w' [(d, u32s s'.l ++ (u8s rest ++ [.int .u64 n]), 161)]) v bs := by
 intro w1 v bs st h hv hne
 have hv1 : BytesAt w1 v bs := SlAt.own hv h (by simpa using hne)
 exact Src.of_bytes (L := fun s' => [(d, u32s s'.l ++ (u8s rest ++ [.int .u64 n]), 161)]) hv1 (fun k hk s => by simpa using hne k hk)
set_option maxRecDepth 100000 in
theorem write_few (w : World) (d : Nat) (st : St) (rest bs : List Int) (n r : Nat) (v : Value) (hr : rest.length = 64) (hn : n % 64 = r) (hr0 : 0 < r) (hfew : r + bs.length < 64) (hN : n ≤ 140737488351232)
 (H : Own w w [(d, digCells st rest n, 161)]) (hv : BytesAt w v bs) (hne : ∀ k, blk v = some k → k ≠ d) :
 Calls Tryz.prog 98 #[.pointer (some ⟨d, 0, none⟩), v] w fun e w' => e = .returned (.tuple #[]) ∧ Own w w' [(d, digCells st (splice rest r bs) (n + bs.length), 161)] := by
 have E1 : ((n : Int) % 64) = (r : Int) := by omega
 have hdn := Hh (dig_n (st := st) (n := n) hr)
 have hst := Hh (dig_setN (st := st) (n := n) (m := n + bs.length) hr)
 have hsp := Hh (dig_splice (st := st) (n := n + bs.length) (ys := bs) hr (by omega : r + bs.length ≤ 64))
 have hl73 := Hh (length_digCells (st := st) (n := n) hr)
 have hl73' := Hh (length_digCells (st := st) (n := n + bs.length) hr)
 have hv' := Hh hv
 have hsl : ∃ len cap p, v = .slice p len cap ∧ len = bs.length := by
  rcases hv.cell with ⟨⟨p, rfl⟩, rfl⟩ | ⟨b, off, cap, rfl, _, _⟩ <;> exact ⟨_, _, _, rfl, rfl⟩
 obtain ⟨len, cap, p, rfl, rfl⟩ := hsl
 have hn' := Hh hn
 clear hn hv
 go_enter Tryz.func98, Tryz.ntmps98
 have h64 : ¬ (64 = r) := by omega
 have hsl : ∀ w1, Own w w1 [(d, digCells st rest (n + bs.length), 161)] → SlAt w1 (.slice p bs.length cap) bs.length (u8s bs) := fun w1 h1 => hv'.out.own h1 (by simpa using hne)
 have hsl' := Hh hsl
 clear hsl
 have htk : Hid ((u8s bs).take (64 - r) = u8s bs) := List.take_of_length_le (by simp; omega)
 have hmin : Hid (Nat.min bs.length (64 - r) = bs.length) := Nat.min_eq_left (by omega)
 go_wp2_with (first
  | (refine st_val rfl (rn_load H rfl rfl (.head _) rfl rfl hdn.out) ?_)
  | (refine st_skip rfl (rn_store (v := .int .u64 (n + bs.length : Nat)) H rfl rfl (by first | rfl | (simp; done)) rfl .head (by rw [hl73.out]; omega) rfl) ?_; clear H; intro w1 H; rw [hst.out] at H)
  | (refine st_val rfl (rn_sliceArr (l := r) (h := 64) rfl rfl size_u8 rfl (by exact .is rfl rfl rfl) (by exact .no _) (by omega) (by omega)) ?_)
  | (refine st_both rfl (rn_copy (sv := .slice p bs.length cap) H rfl rfl size_u8 rfl rfl (hsl'.out _ H) (length_ints _ _) .head (by rw [hl73'.out, hmin.out]; omega) (oneCell_ints _ _) hmin.out) ?_; clear H; intro w2 H; rw [htk.out, hsp.out] at H)
  | (refine st_slEx rfl (rn_sub (m := 0) (sv := .slice p bs.length cap) (l := bs.length) (h := bs.length) rfl rfl size_u8 rfl hv'.out (length_ints _ _) (by exact .is rfl rfl rfl) (by exact .no _) (by omega) (by omega) (by omega)) ?_; intro p2 c2 hb2))
 exact bodyPost_ret (v := .tuple #[]) (results_none rfl _ _ _) rfl ⟨rfl, H⟩
end Go.Proofs.YtfihlmnbonnekaaGreat
namespace Go.Proofs.YtfihlmnbonnekaaGreat
open Go.RowKit
theorem BytesAt.of {w : World} {v : Value} {m : Nat} {xs : List Value} {ys : List Int} (h : SlAt w v m xs) (hx : xs = u8s ys) (hm : m = ys.length) : BytesAt w v ys := by
 subst hx hm; exact h
set_option maxRecDepth 100000 in
theorem write_even (w : World) (d : Nat) (st : St) (rest bs : List Int) (n : Nat) (v : Value) (hr : rest.length = 64) (hn : n % 64 = 0) (hN : n ≤ 140737488351232) (hB : bs.length ≤ 140737488351232)
 (H : Own w w [(d, digCells st rest n, 161)]) (hv : BytesAt w v bs) (hne : ∀ k, blk v = some k → k ≠ d) :
 Calls Tryz.prog 98 #[.pointer (some ⟨d, 0, none⟩), v] w fun e w' => e = .returned (.tuple #[]) ∧
  Own w w' [(d, digCells (comps st bs 0 (bs.length / 64)) (splice rest 0 (bs.drop (64 * (bs.length / 64)))) (n + bs.length), 161)] := by
 have E1 : ((n : Int) % 64) = 0 := by omega
 have hdn := Hh (dig_n (st := st) (n := n) hr)
 have hst := Hh (dig_setN (st := st) (n := n) (m := n + bs.length) hr)
 have hl73 := Hh (length_digCells (st := st) (n := n) hr)
 have hv' := Hh hv
 have hsl : ∃ len cap p, v = .slice p len cap ∧ len = bs.length := by
  rcases hv.cell with ⟨⟨p, rfl⟩, rfl⟩ | ⟨b, off, cap, rfl, _, _⟩ <;> exact ⟨_, _, _, rfl, rfl⟩
 obtain ⟨len, cap, p, rfl, rfl⟩ := hsl
 clear hv hn
 obtain ⟨q, hq⟩ : ∃ q, q = 64 * (bs.length / 64) := ⟨_, rfl⟩
 have hqle : q ≤ bs.length := by omega
 have hrem : bs.length - q < 64 := by omega
 have E2 : ((bs.length : Int) / 64 * 64) = (q : Int) := by omega
 have hcm : Hid (comps st (bs.take q) 0 ((bs.take q).length / 64) = comps st bs 0 (bs.length / 64)) := by
  show _ = _
  rw [show (bs.take q).length / 64 = bs.length / 64 by simp; omega]
  exact comps_congr _ (fun i hi => by rw [Nat.zero_add, List.getElem?_take, if_pos (by omega)])
 have hlt : Hid ((bs.take q).length ≤ 140737488351232) := by show _ ≤ _; simp; omega
 generalize hst2 : comps st bs 0 (bs.length / 64) = st2 at hcm ⊢
 have hsp := Hh (show splice (digCells st2 rest (n + bs.length)) 8 (u8s (bs.drop q)) = _ from dig_splice (p := 0) (st := st2) (n := n + bs.length) (ys := bs.drop q) hr (by simp; omega))
 have hl73' := Hh (length_digCells (st := st2) (n := n + bs.length) hr)
 have hx1 : Hid (((u8s bs).drop 0).take q = u8s (bs.take q)) := (List.map_take ..).symm
 have hx2 : Hid (((u8s bs).drop q).take (bs.length - q) = u8s (bs.drop q)) := (List.take_of_length_le (by simp)).trans (List.map_drop ..).symm
 have hx3 : Hid ((u8s (bs.drop q)).take 64 = u8s (bs.drop q)) := List.take_of_length_le (by simp; omega)
 have hmin : Hid (Nat.min (bs.length - q) 64 = bs.length - q) := Nat.min_eq_left (by omega)
 have hlq : Hid (q = (bs.take q).length) := by show _ = _; simp; omega
 have hlq2 : Hid (bs.length - q = (bs.drop q).length) := by show _ = _; simp
 have hsrc := Hh (Own.src_of (w := w) (d := d) (rest := rest) (n := n + bs.length))
 have hq' := Hh hq
 rw [← hq]
 clear hq hst2
 go_enter Tryz.func98, Tryz.ntmps98
 go_wp2_with (first
  | (refine st_val rfl (rn_load H rfl rfl (.head _) rfl rfl hdn.out) ?_)
  | (refine st_skip rfl (rn_store (v := .int .u64 (n + bs.length : Nat)) H rfl rfl (by first | rfl | (simp; done)) rfl .head (by rw [hl73.out]; omega) rfl) ?_; clear H; intro w1 H; rw [hst.out] at H)
  | (refine st_slEx rfl (rn_sub (m := q) (sv := .slice p bs.length cap) (l := 0) (h := q) rfl rfl size_u8 rfl hv'.out (length_ints _ _) (by exact .no _) (by exact .is rfl rfl rfl) (by omega) (by omega) (by omega)) ?_; intro p2 c2 hb2)
  | (go_at_call 106; refine (block_any _ d 161 st (u8s rest ++ [.int .u64 (n + bs.length : Nat)]) _ (bs.take q) (H.sub1 (.head _)) (hsrc.out _ _ _ H (BytesAt.of hb2.1 hx1.out hlq.out) (fun k hk => hne k (hb2.2 k hk))) hlt.out).mono ?_; rintro e w2 ⟨rfl, h2⟩; rw [hcm.out] at h2; have H2 := H.call1 h2; clear H h2; have H : Own w w2 [(d, digCells st2 rest (n + bs.length), 161)] := H2; clear H2))
 refine region_drew 10 (by kernel_rfl) (by kernel_rfl) (by kernel_rfl) ?_
 simp only [List.take_succ_cons, List.take_zero, List.drop_succ_cons, List.drop_zero]
 repeat (first
  | (refine qd_val rfl (fun m => rn_sliceAll rfl rfl size_u8 rfl (by omega)) ?_; go_frame)
  | (refine qd_slEx rfl (rn_sub (m := bs.length - q) (sv := .slice p bs.length cap) (l := q) (h := bs.length) rfl rfl size_u8 rfl hv'.out (length_ints _ _) (by exact .is rfl rfl rfl) (by exact .no _) (by omega) (by omega) rfl) ?_; intro p3 c3 hb3; go_frame)
  | go_big_quiet_step (fail))
 refine wpQuiet_nil ?_
 rintro w' hw'
 have H' := H
 clear H
 have H := (show Own w w' _ by obtain ⟨m, rfl⟩ := hw'; exact H'.drewN m)
 clear H' hw'
 have hb3' : SlAt w (.slice p3 (bs.length - q) c3) (bs.length - q) (u8s (bs.drop q)) := by have h := hb3.1; rw [hx2.out] at h; exact h
 have hs3 := Hh (hb3'.own H (by simpa using fun k hk => hne k (hb3.2 k hk)))
 clear hb3 hb3'
 have hfit : Hid (8 + Nat.min (bs.length - q) 64 ≤ (digCells st2 rest (n + bs.length)).length) := by show _ ≤ _; rw [hl73'.out, hmin.out]; omega
 have hlen2 : Hid ((u8s (bs.drop q)).length = bs.length - q) := by show _ = _; simp
 go_wp2_with (refine st_both rfl (rn_copy (sv := .slice p3 (bs.length - q) c3) H rfl rfl size_u8 rfl rfl hs3.out hlen2.out .head hfit.out (oneCell_ints _ _) hmin.out) ?_; clear H; intro w4 H; rw [hx3.out, hsp.out] at H)
 go_end0
 exact ⟨rfl, H⟩
set_option maxRecDepth 100000 in
theorem write_fill (w : World) (d : Nat) (st : St) (rest bs : List Int) (n r f : Nat) (v : Value) (hr : rest.length = 64) (hn : n % 64 = r) (hr0 : 0 < r) (hrf : r + f = 64) (hf : f ≤ bs.length) (hN : n ≤ 140737488351232) (hB : bs.length ≤ 140737488351232)
 (H : Own w w [(d, digCells st rest n, 161)]) (hv : BytesAt w v bs) (hne : ∀ k, blk v = some k → k ≠ d) :
 Calls Tryz.prog 98 #[.pointer (some ⟨d, 0, none⟩), v] w fun e w' => e = .returned (.tuple #[]) ∧
  Own w w' [(d, digCells (comps (comps st (splice rest r (bs.take f)) 0 1) (bs.drop f) 0 ((bs.drop f).length / 64)) (splice (splice rest r (bs.take f)) 0 ((bs.drop f).drop (64 * ((bs.drop f).length / 64)))) (n + bs.length), 161)] := by
 have E1 : ((n : Int) % 64) = (r : Int) := by omega
 have hdn := Hh (dig_n (st := st) (n := n) hr)
 have hst := Hh (dig_setN (st := st) (n := n) (m := n + bs.length) hr)
 have hl73 := Hh (length_digCells (st := st) (n := n) hr)
 have hl73a := Hh (length_digCells (st := st) (n := n + bs.length) hr)
 have hv' := Hh hv
 have hsl : ∃ len cap p, v = .slice p len cap ∧ len = bs.length := by
  rcases hv.cell with ⟨⟨p, rfl⟩, rfl⟩ | ⟨b, off, cap, rfl, _, _⟩ <;> exact ⟨_, _, _, rfl, rfl⟩
 obtain ⟨len, cap, p, rfl, rfl⟩ := hsl
 clear hv hn
 have hspA := Hh (dig_splice (p := r) (st := st) (n := n + bs.length) (ys := bs.take f) hr (by simp; omega))
 have hr1 : (splice rest r (bs.take f)).length = 64 := by rw [length_splice _ _ _ (by simp; omega)]; exact hr
 have hxA : Hid ((u8s bs).take (64 - r) = u8s (bs.take f)) := by show _ = _; rw [show 64 - r = f by omega]; exact (List.map_take ..).symm
 have hminA : Hid (Nat.min bs.length (64 - r) = f) := by show _ = _; rw [show 64 - r = f by omega]; exact Nat.min_eq_right hf
 have h64 : ¬ (64 = r) := by omega
 generalize splice rest r (bs.take f) = rest1 at hspA hr1 ⊢
 have hys : Hid (((u8s bs).drop f).take (bs.length - f) = u8s (bs.drop f)) := (List.take_of_length_le (by simp)).trans (List.map_drop ..).symm
 have hyl : (bs.drop f).length = bs.length - f := by simp
 generalize bs.drop f = ys at hys hyl ⊢
 have hsrc1 : Hid (∀ w1 : World, Src (fun w' => ∃ s' : St, Own w1 w' [(d, u32s s'.l ++ (u8s rest1 ++ [.int .u64 (n + bs.length : Nat)]), 161)]) (.slice (some ⟨d, 8, none⟩) 64 64) rest1) := fun w1 => Own.src_rest hr1
 have hc1 : Hid (comps st rest1 0 (rest1.length / 64) = comps st rest1 0 1) := by show _ = _; rw [hr1]
 have hl1 : Hid (rest1.length ≤ 140737488351232) := by show _ ≤ _; rw [hr1]; omega
 generalize comps st rest1 0 1 = st1 at hc1 ⊢
 obtain ⟨ml, hml⟩ : ∃ ml, ml = ys.length := ⟨_, rfl⟩
 have hmle : ml + f = bs.length := by omega
 obtain ⟨q, hq⟩ : ∃ q, q = 64 * (ys.length / 64) := ⟨_, rfl⟩
 have hqle : q ≤ ml := by omega
 have hrem : ml - q < 64 := by omega
 have E2 : ((ml : Int) / 64 * 64) = (q : Int) := by omega
 have hcm : Hid (comps st1 (ys.take q) 0 ((ys.take q).length / 64) = comps st1 ys 0 (ys.length / 64)) := by
  show _ = _
  rw [show (ys.take q).length / 64 = ys.length / 64 by simp; omega]
  exact comps_congr _ (fun i hi => by rw [Nat.zero_add, List.getElem?_take, if_pos (by omega)])
 have hlt : Hid ((ys.take q).length ≤ 140737488351232) := by show _ ≤ _; simp; omega
 generalize hst2 : comps st1 ys 0 (ys.length / 64) = st2 at hcm ⊢
 have hsp := Hh (show splice (digCells st2 rest1 (n + bs.length)) 8 (u8s (ys.drop q)) = _ from dig_splice (p := 0) (st := st2) (n := n + bs.length) (ys := ys.drop q) hr1 (by simp; omega))
 have hl73' := Hh (length_digCells (st := st2) (n := n + bs.length) hr1)
 have hx1 : Hid (((u8s ys).drop 0).take q = u8s (ys.take q)) := (List.map_take ..).symm
 have hx2 : Hid (((u8s ys).drop q).take (ml - q) = u8s (ys.drop q)) := (List.take_of_length_le (by simp; omega)).trans (List.map_drop ..).symm
 have hx3 : Hid ((u8s (ys.drop q)).take 64 = u8s (ys.drop q)) := List.take_of_length_le (by simp; omega)
 have hmin : Hid (Nat.min (ml - q) 64 = ml - q) := Nat.min_eq_left (by omega)
 have hlq : Hid (q = (ys.take q).length) := by show _ = _; simp; omega
 have hsrc := Hh (Own.src_of (w := w) (d := d) (rest := rest1) (n := n + bs.length))
 have hylen : Hid ((u8s ys).length = ml) := by show _ = _; simp; omega
 have hfm : Hid (bs.length - f = ml) := by show _ = _; omega
 have hlq2 : Hid (ml - q = (ys.drop q).length) := by show _ = _; simp; omega
 have hneH := Hh hne
 have hmle' := Hh hmle
 have hys' : Hid (((u8s bs).drop f).take ml = u8s ys) := by show _ = _; rw [← hfm.out]; exact hys.out
 clear hys
 have hslA := Hh (fun w1 (h1 : Own w w1 [(d, digCells st rest (n + bs.length), 161)]) => hv'.out.own h1 (by simpa using hne))
 rw [← hq]
 clear hq hst2 hml hyl hr1
 have tok : True := trivial
 go_enter Tryz.func98, Tryz.ntmps98
 go_wp2_with (first
  | (refine st_val rfl (rn_load H rfl rfl (.head _) rfl rfl hdn.out) ?_)
  | (refine st_skip rfl (rn_store (v := .int .u64 (n + bs.length : Nat)) H rfl rfl (by first | rfl | (simp; done)) rfl .head (by rw [hl73.out]; omega) rfl) ?_; clear H; intro w1 H; rw [hst.out] at H)
  | (refine st_val rfl (rn_sliceArr (l := r) (h := 64) rfl rfl size_u8 rfl (by exact .is rfl rfl rfl) (by exact .no _) (by omega) (by omega)) ?_)
  | (refine st_val rfl (rn_sliceAll rfl rfl size_u8 rfl (by omega)) ?_)
  | (refine st_both rfl (rn_copy (sv := .slice p bs.length cap) H rfl rfl size_u8 rfl rfl (hslA.out _ H) (length_ints _ _) .head (by rw [hl73a.out, hminA.out]; omega) (oneCell_ints _ _) hminA.out) ?_; clear H; intro w2 H; rw [hxA.out, hspA.out] at H)
  | (refine st_slEx rfl (rn_sub (m := ml) (sv := .slice p bs.length cap) (l := f) (h := bs.length) rfl rfl size_u8 rfl hv'.out (length_ints _ _) (by exact .is rfl rfl rfl) (by exact .no _) (by omega) (by omega) hfm.out) ?_; intro p1 c1 hb1; have hbA : Hid (SlAt w (.slice p1 ml c1) ml (u8s ys)) := (by show SlAt w (.slice p1 ml c1) ml (u8s ys); have h := hb1.1; rw [hys'.out] at h; exact h); have hne1 : Hid (∀ k, blk (Value.slice p1 ml c1) = some k → k ≠ d) := fun k hk => hneH.out k (hb1.2 k hk); clear hb1)
  | (go_at_call 106; clear tok; refine (block_any _ d 161 st (u8s rest1 ++ [.int .u64 (n + bs.length : Nat)]) _ rest1 (H.sub1 (.head _)) (hsrc1.out _) hl1.out).mono ?_; rintro e w3 ⟨rfl, h3⟩; rw [hc1.out] at h3; have H3 := H.call1 h3; clear H h3; have H : Own w w3 [(d, digCells st1 rest1 (n + bs.length), 161)] := H3; clear H3)
  | (refine st_slEx rfl (rn_sub (m := q) (sv := .slice p1 ml c1) (l := 0) (h := q) rfl rfl size_u8 rfl hbA.out hylen.out (by exact .no _) (by exact .is rfl rfl rfl) (by omega) (by omega) (by omega)) ?_; intro p2 c2 hb2)
  | (go_at_call 106; refine (block_any _ d 161 st1 (u8s rest1 ++ [.int .u64 (n + bs.length : Nat)]) _ (ys.take q) (H.sub1 (.head _)) (hsrc.out _ _ _ H (BytesAt.of hb2.1 hx1.out hlq.out) (fun k hk => hne1.out k (hb2.2 k hk))) hlt.out).mono ?_; rintro e w3 ⟨rfl, h3⟩; rw [hcm.out] at h3; have H3 := H.call1 h3; clear H h3; have H : Own w w3 [(d, digCells st2 rest1 (n + bs.length), 161)] := H3; clear H3))
 refine region_drew 10 (by kernel_rfl) (by kernel_rfl) (by kernel_rfl) ?_
 simp only [List.take_succ_cons, List.take_zero, List.drop_succ_cons, List.drop_zero]
 repeat (first
  | (refine qd_val rfl (fun m => rn_sliceAll rfl rfl size_u8 rfl (by omega)) ?_; go_frame)
  | (refine qd_slEx rfl (rn_sub (m := ml - q) (sv := .slice p1 ml c1) (l := q) (h := ml) rfl rfl size_u8 rfl hbA.out hylen.out (by exact .is rfl rfl rfl) (by exact .no _) (by omega) (by omega) rfl) ?_; intro p3 c3 hb3; go_frame)
  | go_big_quiet_step (fail))
 refine wpQuiet_nil ?_
 rintro w' hw'
 have H' := H
 clear H
 have H := (show Own w w' _ by obtain ⟨m, rfl⟩ := hw'; exact H'.drewN m)
 clear H' hw'
 have hb3' : SlAt w (.slice p3 (ml - q) c3) (ml - q) (u8s (ys.drop q)) := by have h := hb3.1; rw [hx2.out] at h; exact h
 have hs3 := Hh (hb3'.own H (by simpa using fun k hk => hne1.out k (hb3.2 k hk)))
 clear hb3 hb3'
 have hfit : Hid (8 + Nat.min (ml - q) 64 ≤ (digCells st2 rest1 (n + bs.length)).length) := by show _ ≤ _; rw [hl73'.out, hmin.out]; omega
 have hlen2 : Hid ((u8s (ys.drop q)).length = ml - q) := by show _ = _; rw [hlq2.out]; simp
 go_wp2_with (refine st_both rfl (rn_copy (sv := .slice p3 (ml - q) c3) H rfl rfl size_u8 rfl rfl hs3.out hlen2.out .head hfit.out (oneCell_ints _ _) hmin.out) ?_; clear H; intro w4 H; rw [hx3.out, hsp.out] at H)
 go_end0
 exact ⟨rfl, H⟩
end Go.Proofs.YtfihlmnbonnekaaGreat
namespace Go.Proofs.YtfihlmnbonnekaaGreat
open Go.RowKit
theorem write_any (w : World) (d : Nat) (st : St) (rest xs bs : List Int) (v : Value) (h : DigOf xs st rest) (hN : xs.length ≤ 140737488351232) (hB : bs.length ≤ 140737488351232)
 (H : Own w w [(d, digCells st rest xs.length, 161)]) (hv : BytesAt w v bs) (hne : ∀ k, blk v = some k → k ≠ d) :
 Calls Tryz.prog 98 #[.pointer (some ⟨d, 0, none⟩), v] w fun e w' => e = .returned (.tuple #[]) ∧
  ∃ st' rest', DigOf (xs ++ bs) st' rest' ∧ Own w w' [(d, digCells st' rest' (xs.length + bs.length), 161)] := by
 have hr := h.2.1
 by_cases h0 : xs.length % 64 = 0
 · refine (write_even w d st rest bs xs.length v hr h0 hN hB H hv hne).mono ?_
   rintro e w' ⟨he, ho⟩
   refine ⟨he, _, _, ?_, ho⟩
   have hl : (splice rest 0 (bs.drop (64 * (bs.length / 64)))).length = 64 := by rw [length_splice _ _ _ (by simp; omega)]; exact hr
   have := h.many (bs := bs) (r := 0) (by omega) (by omega) (Or.inr rfl) hl (by
    rw [Nat.sub_zero, Nat.zero_add]
    have e1 : bs.length % 64 = (bs.drop (64 * (bs.length / 64))).length := by simp; omega
    rw [e1]
    simp [splice])
   simpa using this
 · by_cases h1 : xs.length % 64 + bs.length < 64
   · refine (write_few w d st rest bs xs.length _ v hr rfl (by omega) h1 hN H hv hne).mono ?_
     rintro e w' ⟨he, ho⟩
     exact ⟨he, _, _, h.few h1, ho⟩
   · refine (write_fill w d st rest bs xs.length _ (64 - xs.length % 64) v hr rfl (by omega) (by omega) (by omega) hN hB H hv hne).mono ?_
     rintro e w' ⟨he, ho⟩
     refine ⟨he, _, _, ?_, ho⟩
     have hl1 : (splice rest (xs.length % 64) (bs.take (64 - xs.length % 64))).length = 64 := by rw [length_splice _ _ _ (by simp; omega)]; exact hr
     have hl : (splice (splice rest (xs.length % 64) (bs.take (64 - xs.length % 64))) 0 ((bs.drop (64 - xs.length % 64)).drop (64 * ((bs.drop (64 - xs.length % 64)).length / 64)))).length = 64 := by
      rw [length_splice _ _ _ (by simp; omega)]; exact hl1
     have := h.many (bs := bs) (r := 64 - xs.length % 64) (by omega) (by omega) (Or.inl ⟨by omega, by omega⟩) hl (by
      have e1 : (bs.length - (64 - xs.length % 64)) % 64 = ((bs.drop (64 - xs.length % 64)).drop (64 * ((bs.drop (64 - xs.length % 64)).length / 64))).length := by simp; omega
      rw [e1]
      simp [splice, List.drop_drop])
     rw [if_neg (by omega)] at this
     simpa using this
theorem elem_u8 : Elem Tryz.prog 5 1 1 := Elem.of (by kernel_rfl) (by decide)
theorem length_bytes8 (n : Int) : (bytes8 n).length = 8 := by simp [bytes8]
theorem bytes8_get (n : Int) {j : Nat} (h : j < 8) : (bytes8 n).take (j + 1) = (bytes8 n).take j ++ [w8 (n / 2 ^ (8 * (7 - j)))] := by
 rw [List.take_add_one]
 simp [bytes8, h]
end Go.Proofs.YtfihlmnbonnekaaGreat
namespace Go.Proofs.YtfihlmnbonnekaaGreat
open Go.RowKit
theorem St.length_bytes (s : St) : s.bytes.length = 32 := rfl
theorem St.bytes_step (s : St) {i : Nat} (h : i < 8) : s.bytes.take (4 * i + 3 + 1) = s.bytes.take (4 * i) ++ [(s.l[i]?.getD 0) / 16777216 % 256] ++ [(s.l[i]?.getD 0) / 65536 % 256] ++ [(s.l[i]?.getD 0) / 256 % 256] ++ [(s.l[i]?.getD 0) % 256] := by
 rcases i with _ | _ | _ | _ | _ | _ | _ | _ | _
 · rfl
 · rfl
 · rfl
 · rfl
 · rfl
 · rfl
 · rfl
 · rfl
 · omega
set_option maxRecDepth 100000 in
theorem sum_any (w : World) (d : Nat) (st : St) (rest xs : List Int) (hd : DigOf xs st rest) (hN : xs.length ≤ 140737488351232) (H0 : Own w w [(d, digCells st rest xs.length, 161)]) :
 Calls Tryz.prog 99 #[.pointer (some ⟨d, 0, none⟩)] w fun e w' => e = .returned (.agg (u8s (sha xs)).toArray) ∧ Own w w' [] := by
 have hr := hd.2.1
 have hd' := Hh hd
 clear hd
 have H := Own.refl w
 have hdlt := H0.lt (.head _)
 have hcp : Hid (∀ w1 r, w.heap.size ≤ r → Own w w1 [(r, u8s (List.replicate 32 0), 24)] → Own w1 w1 [(d, digCells st rest xs.length, 161)]) := fun w1 r hr1 h1 =>
  Own.one (by rw [h1.keep d hdlt (by simp; omega)]; exact H0.here _ _ _ (.head _))
 clear H0
 have hdn := Hh (dig_n (st := st) (n := xs.length) hr)
 generalize hn : xs.length = n at hN H hcp hdn
 have hn' := Hh hn
 clear hn
 go_enter Tryz.func99, Tryz.ntmps99
 go_wp2_with (first
  | (refine st_new rfl (rn_alloc H rfl info_hash) ?_; clear H; intro r w1 hr1 H)
  | (go_at_call 107; refine (copy_any _ d st rest n hr (hcp.out _ _ hr1 H)).mono ?_; rintro e w2 ⟨c, rfl, hc, h2⟩; have H2 := H.call (L1 := []) (L := [(r, u8s (List.replicate 32 0), 24)]) (Upd.of_own h2 (by simpa using hc)) (by simp); have hc0 : w.heap.size ≤ c := Nat.le_trans H.size hc; clear H h2 hcp; have H : Own w w2 [(c, digCells st rest n, 161), (r, u8s (List.replicate 32 0), 24)] := H2; clear H2)
  | (refine st_val rfl (rn_load H rfl rfl (.head _) rfl rfl hdn.out) ?_)
  | (refine st_new rfl (rn_buildSlice (e := 5) (cs := u8s [128]) H rfl (fun w' => by kernel_rfl)) ?_; clear H; intro b w4 hb H))
 have B : Buf 5 .u8 w w4 [(c, digCells st rest n, 161), (r, u8s (List.replicate 32 0), 24)] (.slice (some ⟨b, 0, none⟩) 1 1) [128] := Buf.lit (xs := [128]) H hb (by decide)
 clear H hb hc
 have hz : padN n < 64 := by unfold padN; omega
 have hz56 : (n + (1 + padN n)) % 64 = 56 := by unfold padN; omega
 have hzne : Hid (∀ k, k < padN n → (n + (1 + k)) % 64 ≠ 56) := by intro k hk; unfold padN at hk; omega
 have hpad : Hid (pad n = 0x80 :: (List.replicate (padN n) 0 ++ bytes8 (((n : Int) * 8) % 18446744073709551616))) := rfl
 generalize padN n = z at hz hz56 hzne hpad
 have hz56' := Hh hz56
 clear hz56
 go_loopw [5] (fun v5 wr => ∃ k p cp, k ≤ z ∧ v5 = .slice p (1 + k) cp ∧ Buf 5 .u8 w wr [(c, digCells st rest n, 161), (r, u8s (List.replicate 32 0), 24)] v5 (128 :: List.replicate k 0)) (fun v5 _ => 200 - lenV v5)
 case atStart => exact ⟨0, _, _, by omega, rfl, B⟩
 case round =>
  clear B
  obtain ⟨k, p, cp, hk, rfl, B⟩ := hrel
  have hl : Hid ((128 :: List.replicate k (0 : Int)).length = 1 + k) := by show _ = _; simp; omega
  have hnx : Hid ((128 :: List.replicate k (0 : Int)) ++ [0] = 128 :: List.replicate (k + 1) 0) := by show _ = _; rw [List.cons_append, List.replicate_succ']
  by_cases hkz : k < z
  · have hne := hzne.out k hkz
    have hne' : ¬ (((n : Int) + (1 + (k : Int))) % 64 = 56) := by omega
    clear hne
    go_wp2_with (first
     | (refine st_lit rfl B rfl (cs := u8s [0]) (el := 5) (fun w' => by kernel_rfl) ?_; clear B; intro b2 w5 hb2 B)
     | (refine st_app (ys := [0]) rfl B elem_u8 rfl rfl rfl rfl (B.litAt (.head _) rfl) (by rw [hl.out]; simp; omega) (by rw [hl.out]; simp; omega) ?_; clear B; intro p6 c6 w6 B; rw [hl.out, hnx.out] at B; rw [hl.out]))
    exact ⟨⟨k + 1, _, _, by omega, rfl, B.pop hb2⟩, by simp [lenV]; omega⟩
  · obtain rfl : k = z := by omega
    have h56 := hz56'.out
    have h56' : ((n : Int) + (1 + (k : Int))) % 64 = 56 := by omega
    clear h56
    go_wp2_with (fail)
    clear hzne hz56' h56'
    have hq : ∃ q, q = 128 :: List.replicate k (0 : Int) ∧ q.length = 1 + k := ⟨_, rfl, hl.out⟩
    obtain ⟨q, hq1, hq2⟩ := hq
    have hm8 : ((n : Int) * 8) % 18446744073709551616 = (n : Int) * 8 := by omega
    have hpad' : Hid (pad n = q ++ bytes8 ((n : Int) * 8)) := by show _ = _; rw [hpad.out, hq1, hm8]; rfl
    clear hm8
    rw [← hq1] at B
    clear hpad hl hnx hq1
    have h8 := Hh (length_bytes8 ((n : Int) * 8))
    have hget : Hid (∀ j, j < 8 → (bytes8 ((n : Int) * 8)).take (j + 1) = (bytes8 ((n : Int) * 8)).take j ++ [(n : Int) * 8 / 2 ^ (56 - 8 * j) % 256]) := fun j hj => by
     rw [bytes8_get _ hj, show 8 * (7 - j) = 56 - 8 * j by omega]; rfl
    generalize bytes8 ((n : Int) * 8) = e8 at hpad' h8 hget
    have hq2' := Hh hq2
    clear hq2
    go_loopw [5, 6] (fun v5 v6 wr => ∃ j p cp, j ≤ 8 ∧ v5 = .slice p (1 + k + j) cp ∧ v6 = .int .i64 (56 - 8 * (j : Int)) ∧ Buf 5 .u8 w wr [(c, digCells st rest n, 161), (r, u8s (List.replicate 32 0), 24)] v5 (q ++ e8.take j)) (fun _ v6 _ => (intOf v6 + 8).toNat)
    case atStart => exact ⟨0, _, _, by omega, rfl, rfl, by simpa using B⟩
    case round =>
     clear B
     obtain ⟨j, p, cp, hj, rfl, rfl, B⟩ := hrel
     by_cases hj8 : j < 8
     · have hl2 : Hid ((q ++ e8.take j).length = 1 + k + j) := by show _ = _; have := hq2'.out; have := h8.out; simp; omega
       have hnx2 : Hid (q ++ e8.take j ++ [(n : Int) * 8 / 2 ^ (56 - 8 * j) % 256] = q ++ e8.take (j + 1)) := by show _ = _; rw [hget.out j hj8, List.append_assoc]
       go_wp2_with (first
        | (refine st_lit rfl B rfl (cs := u8s [(n : Int) * 8 / 2 ^ (56 - 8 * j) % 256]) (el := 5) (fun w' => by kernel_rfl) ?_; clear B; intro b2 w5 hb2 B)
        | (refine st_app (ys := [(n : Int) * 8 / 2 ^ (56 - 8 * j) % 256]) rfl B elem_u8 rfl rfl rfl rfl (B.litAt (.head _) rfl) (by rw [hl2.out]; simp; omega) (by rw [hl2.out]; simp; omega) ?_; clear B; intro p6 c6 w6 B; rw [hl2.out, hnx2.out] at B; rw [hl2.out]))
       refine ⟨⟨j + 1, _, _, by omega, rfl, by go_num, B.pop hb2⟩, by simp [intOf]; omega⟩
     · obtain rfl : j = 8 := by omega
       have hpl : Hid ((pad n).length = 1 + k + 8) := by show _ = _; have := hq2'.out; have := h8.out; rw [hpad'.out]; simp; omega
       have he8 : Hid (q ++ e8.take 8 = pad n) := by show _ = _; rw [hpad'.out, List.take_of_length_le (by rw [h8.out]; omega)]
       have hw : Hid (BytesAt wr (.slice p (1 + k + 8) cp) (pad n)) := by
        show BytesAt _ _ _
        have h := B.slAt
        rw [he8.out] at h
        exact h
       have hx8 : Hid (∀ e w', Own wr w' e → True) := fun _ _ _ => trivial
       have hwr := Hh (write_any wr c st rest xs (pad n) (.slice p (1 + k + 8) cp) hd'.out (by rw [hn'.out]; exact hN) (by rw [hpl.out]; omega) (by rw [hn'.out]; exact B.sub1 (.head _)) hw.out (fun j hj hjc => B.ne hj (by simp [hjc])))
       have hfin : Hid (∀ st' rest', DigOf (xs ++ pad n) st' rest' → sha xs = st'.bytes) := fun st' rest' h => by
        unfold sha; rw [hn'.out]; exact congrArg St.bytes h.1.symm
       have hn2 := hn'.out
       rw [hn2, hpl.out] at hwr
       clear hn2 he8 hw hx8 hq2' h8 hget hpad' hd'
       go_wp2_with (first
        | (go_at_call 98; refine hwr.out.mono ?_; rintro e w3 ⟨rfl, st', rest', hd3, ho3⟩; have H := (B.call1 ho3).own0; clear B ho3 hwr)
        | (refine st_new rfl (rn_alloc H rfl info_hash) ?_; clear H; intro o w7 ho7 H)
        | (refine st_val rfl (rn_loadRow (vs := u32s st'.l) H rfl rfl (.tail _ (.head _)) rfl rfl size_a8 rfl) ?_))
       have hf2 := Hh (hfin.out st' rest' hd3)
       have hbs := Hh (fun i hi => St.bytes_step st' (i := i) hi)
       clear hfin hd3
       have hn4 : 1 + k + 8 ≤ 200 := by omega
       generalize n + (1 + k + 8) = n3 at H
       go_loopw [50] (fun v50 wr => ∃ i os, i ≤ 8 ∧ v50 = .int .i64 ((i : Nat) : Int) ∧ os.length = 32 ∧ os.take (4 * i) = st'.bytes.take (4 * i) ∧ Own w wr [(o, u8s os, 24), (c, digCells st' rest' n3, 161), (r, u8s (List.replicate 32 0), 24)]) (fun v50 _ => (8 - intOf v50).toNat)
       case atStart => exact ⟨0, List.replicate 32 0, by omega, rfl, rfl, rfl, H⟩
       case round =>
        clear H
        obtain ⟨i, os, hi, rfl, hos, htk, H⟩ := hrel
        by_cases hi8 : i < 8
        · have htk' := Hh htk
          have hos' := Hh hos
          clear htk hos
          have hl8 : Hid (st'.l.length = 8) := rfl
          go_wp2_with (first
           | (refine st_val rfl (rn_idxAgg (cs := st'.l) rfl rfl size_u32 rfl rfl rfl rfl (by omega) (by rw [hl8.out]; omega) hl8.out) ?_)
           | (refine st_skip rfl (rn_storeI H rfl rfl rfl size_u8 .head (by simp only [List.length_set, hos'.out]; omega)) ?_; clear H; intro w8 H))
          refine ⟨⟨i + 1, _, by omega, by go_num, ?_, ?_, H⟩, by simp [intOf]; omega⟩
          · simp [hos'.out]
          · rw [show 4 * (i + 1) = 4 * i + 3 + 1 by omega, hbs.out i hi8]
            have h1 := take_set (v := st'.l[i]?.getD 0 / 16777216 % 256) htk'.out (by rw [hos'.out]; omega)
            have h2 := take_set (v := st'.l[i]?.getD 0 / 65536 % 256) h1 (by simp [hos'.out]; omega)
            have h3 := take_set (v := st'.l[i]?.getD 0 / 256 % 256) h2 (by simp [hos'.out]; omega)
            have h4 := take_set (v := st'.l[i]?.getD 0 % 256) h3 (by simp [hos'.out]; omega)
            exact h4
        · obtain rfl : i = 8 := by omega
          have hos8 : Hid (os = st'.bytes) := by
           show _ = _
           rw [List.take_of_length_le (by omega), List.take_of_length_le (by rw [St.length_bytes]; omega)] at htk
           exact htk
          have hlo : Hid ((u8s os).length = 32) := by show _ = _; simpa [ints] using hos
          have hszo : Hid ((Tryz.prog.info? 24).map (·.size) = some (u8s os).length) := by show _ = _; rw [hlo.out]; exact size_hash
          clear htk hos
          go_wp2_with (first
           | (refine st_val rfl (rn_loadAll H rfl rfl (.head _) rfl rfl hszo.out) ?_)
           | (refine st_skip rfl (rn_storeAll H rfl rfl rfl hszo.out (.tail (.tail .head)) (by rw [hlo.out]; rfl) (oneCell_ints _ _)) ?_; clear H; intro w8 H))
          refine fin_cell rfl H rfl (.tail _ (.tail _ (.head _))) rfl rfl hszo.out rfl ⟨?_, H.end0 (by simp; omega)⟩
          rw [hf2.out, hos8.out]
end Go.Proofs.YtfihlmnbonnekaaGreat
namespace Go.Proofs.YtfihlmnbonnekaaGreat
open Go.RowKit
end Go.Proofs.YtfihlmnbonnekaaGreat
namespace Go.Proofs.YtfihlmnbonnekaaGreat
open Go.RowKit
section
variable {P : Program} {o : Oper} {a : Act} {w : World}
theorem run_toStr {src dst e : TypeId} (hs : P.underlying src = some (.slice e)) (he : P.underlying e = some (.int .u8)) (hd : P.underlying dst = some .string) {v : Value} {bs : List Int} (hb : BytesAt w v bs) :
 (convert src dst v).run P w = .ok (.string (strOfNums bs)) w := by
 rcases hb.cell with ⟨⟨p, rfl⟩, rfl⟩ | ⟨b, off, cap, rfl, hc, hcell⟩
 · cases p with
   | none => exact run_convert_bytes_nil w src e hs he 0 0 dst hd
   | some a =>
     rw [run_convert_bytes_string w src dst e _ 0 0 hs he hd]
     simp [Conv.bytesToString, loadCells, loadCellsFrom, strOfNums]
     rfl
 · exact run_convert_bytes_arg w src e hs he b off bs.length cap bs rfl (fun i hi => by rw [hcell i hi]; rfl) dst hd
end
set_option maxRecDepth 100000 in
theorem shaSum_any (w : World) (v : Value) (bs : List Int) (hv : BytesAt w v bs) (hlt : ∀ k, blk v = some k → k < w.heap.size) (hB : bs.length ≤ 140737488351232) :
 Calls Tryz.prog 83 #[v] w fun e w' => e = .returned (.agg (u8s (sha bs)).toArray) ∧ Own w w' [] := by
 have H := Own.refl w
 have hv' : Hid (∀ w1 L, Own w w1 L → (∀ k ∈ L.map (·.1), w.heap.size ≤ k) → BytesAt w1 v bs) := fun w1 L h1 hk => SlAt.own hv h1 (fun j hj hm => by have := hlt j hj; have := hk j hm; omega)
 have hlt' := Hh hlt
 clear hv hlt
 go_enter Tryz.func83, Tryz.ntmps83
 go_wp2_with (first
  | (refine st_new rfl (rn_alloc H rfl info_hash) ?_; clear H; intro r w1 hr1 H)
  | (go_at_call 97; refine (new_any _).mono ?_; rintro e w2 ⟨d, rfl, hd, h2⟩; have H2 := H.call (L1 := []) (L := [(r, u8s (List.replicate 32 0), 24)]) (Upd.of_own h2 (by simpa using hd)) (by simp); have hd0 : w.heap.size ≤ d := Nat.le_trans H.size hd; clear H h2 hd; have H : Own w w2 [(d, digCells st0 (List.replicate 64 0) 0, 161), (r, u8s (List.replicate 32 0), 24)] := H2; clear H2)
  | (go_at_call 98; refine (write_any _ d st0 (List.replicate 64 0) [] bs v DigOf.nil (by simp) hB (H.sub1 (.head _)) (hv'.out _ _ H (by simp; omega)) (fun k hk => by have := hlt'.out k hk; omega)).mono ?_; rintro e w3 ⟨rfl, st', rest', hd3, h3⟩; replace H := H.call1 h3; clear h3)
  | (go_at_call 99; refine (sum_any _ d st' rest' ([] ++ bs) hd3 (by simpa using hB) (by have h := H.sub1 (.head _); simpa using h)).mono ?_; rintro e w4 ⟨rfl, h4⟩; have H2 := H.call0 h4; clear H h4 hd3; have H := H2; clear H2)
  | (refine st_skip rfl (rn_storeAll H rfl rfl rfl (by kernel_rfl) (.tail .head) (by kernel_rfl) (oneCell_ints _ _)) ?_; clear H; intro w8 H))
 refine fin_cell rfl H rfl (.tail _ (.head _)) rfl rfl (by kernel_rfl) rfl ⟨rfl, H.end0 (by simp; omega)⟩
end Go.Proofs.YtfihlmnbonnekaaGreat
