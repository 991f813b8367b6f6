/- sha's digests: what New, Copy, Write do. -/
import Derived.Test.YtjcnhpnadfhjaaaSha6
import Derived.Test.YtjcnhpnadfhjaaaOps
import Derived.Test.YtjcnhpnadfhjaaaDig0
namespace Go.Proofs.Ytjcnhpnadfhjaaa
open Go.RowKit

def digCells (st : St) (rest : List Int) (n : Nat) : List Value := u32s st.l ++ (u8s rest ++ [.int .u64 n])

theorem size_dig : (Try.prog.info? 67).map (·.size) = some 73 := by kernel_rfl
theorem info_dig : ((Try.prog.info? 67).bind (·.zero)).map (fun z => z.cells.toList) = some (u32s (List.replicate 8 0) ++ (u8s (List.replicate 64 0) ++ [.int .u64 0])) := by kernel_rfl

theorem length_digCells {st : St} {rest : List Int} {n : Nat} (h : rest.length = 64) : (digCells st rest n).length = 73 := by simp [digCells, St.l, h]
theorem oneCell_dig (st : St) (rest : List Int) (n : Nat) : ∀ v ∈ digCells st rest n, v.oneCell' = true := by
  intro v hv
  simp only [digCells, List.mem_append, List.mem_singleton] at hv
  rcases hv with hv | hv | rfl
  · exact oneCell_ints _ _ v hv
  · exact oneCell_ints _ _ v hv
  · rfl
theorem dig_n {st : St} {rest : List Int} {n : Nat} (h : rest.length = 64) : (digCells st rest n)[72]? = some (.int .u64 n) := by
  simp [digCells, St.l, h]
theorem dig_setN {st : St} {rest : List Int} {n m : Nat} (h : rest.length = 64) : (digCells st rest n).set 72 (.int .u64 m) = digCells st rest m := by
  simp [digCells, St.l, h]
theorem dig_splice {st : St} {rest ys : List Int} {n p : Nat} (h : rest.length = 64) (hp : p + ys.length ≤ 64) : splice (digCells st rest n) (8 + p) (u8s ys) = digCells st (splice rest p ys) n := by
  have h8 : (u32s st.l).length = 8 := by simp [St.l]
  unfold digCells splice
  rw [show 8 + p = (u32s st.l).length + p by omega, List.take_length_add_append, List.append_assoc]
  congr 1
  rw [show (u32s st.l).length + p + (u8s ys).length = (u32s st.l).length + (p + ys.length) by simp; omega, List.drop_length_add_append, List.drop_append_of_le_length (by simp; omega), List.take_append_of_le_length (by simp; omega)]
  simp [ints, List.map_take, List.map_drop]
theorem dig_rest {st : St} {rest : List Int} {n : Nat} (h : rest.length = 64) {i : Nat} (hi : i < 64) : (digCells st rest n)[8 + i]? = some (.int .u8 (rest[i]?.getD 0)) := by
  unfold digCells
  rw [List.getElem?_append_right (by simp [St.l]), show 8 + i - (u32s st.l).length = i by simp [St.l], List.getElem?_append_left (by simp; omega)]
  exact ints_get (by omega)

set_option maxRecDepth 100000 in
set_option maxHeartbeats 400000 in
theorem first_any (w : World) : Calls Try.prog 32 #[] w fun e w' => e = .returned (.agg (u32s st0.l).toArray) ∧ Own w w' [] := by
  have H := Own.refl w
  go_enter Try.func32, Try.ntmps32
  go_wp2_with (first
    | (refine st_new rfl (rn_alloc H rfl info_a8) ?_; clear H; intro b0 w1 hb0 H)
    | (refine st_val rfl (rn_build (cs := u32s st0.l) rfl (by kernel_rfl)) ?_)
    | (refine st_skip rfl (rn_storeAll H rfl rfl rfl size_a8 .head rfl (oneCell_ints _ _)) ?_; clear H; intro w2 H))
  exact fin_cell rfl H rfl (.head _) rfl rfl size_a8 rfl ⟨rfl, H.end0 (by simp; omega)⟩

set_option maxRecDepth 100000 in
set_option maxHeartbeats 400000 in
theorem new_any (w : World) : Calls Try.prog 28 #[] w fun e w' => ∃ d, e = .returned (.pointer (some ⟨d, 0, none⟩)) ∧ w.heap.size ≤ d ∧ Own w w' [(d, digCells st0 (List.replicate 64 0) 0, 67)] := by
  have H := Own.refl w
  go_enter Try.func28, Try.ntmps28
  go_wp2_with (first
    | (go_at_call 32; refine (first_any _).mono ?_; rintro e w1 ⟨rfl, h1⟩; have H1 := H.call0 h1; clear H h1; have H := H1; clear H1)
    | (refine st_val rfl (rn_build (cs := digCells st0 (List.replicate 64 0) 0) rfl (by kernel_rfl)) ?_)
    | (refine st_new rfl (rn_box (cs := digCells st0 (List.replicate 64 0) 0) H rfl rfl (by kernel_rfl)) ?_; clear H; intro d w2 hd H))
  go_ret
  exact ⟨d, rfl, hd, H⟩

set_option maxRecDepth 100000 in
set_option maxHeartbeats 400000 in
theorem copy_any (w : World) (d : Nat) (st : St) (rest : List Int) (n : Nat) (hr : rest.length = 64) (H : Own w w [(d, digCells st rest n, 67)]) :
    Calls Try.prog 34 #[.pointer (some ⟨d, 0, none⟩)] w fun e w' => ∃ c, e = .returned (.pointer (some ⟨c, 0, none⟩)) ∧ w.heap.size ≤ c ∧ Own w w' [(c, digCells st rest n, 67)] := by
  have hlen := length_digCells (st := st) (n := n) hr
  have hsz : Hid ((Try.prog.info? 67).map (·.size) = some (digCells st rest n).length) := by rw [hlen]; exact size_dig
  have h0 := H
  have hdlt := H.lt (.head _)
  go_enter Try.func34, Try.ntmps34
  go_wp2_with (first
    | (refine st_val rfl (rn_loadAll H rfl rfl (.head _) rfl rfl hsz.out) ?_)
    | (refine st_new rfl (rn_alloc H rfl info_dig) ?_; clear H; intro c w1 hc H)
    | (refine st_skip rfl (rn_storeAll H rfl rfl rfl hsz.out .head (by rw [hlen]; rfl) (oneCell_dig _ _ _)) ?_; clear H; intro w2 H))
  go_ret
  refine ⟨c, rfl, hc, ?_⟩
  exact Own.unturned (L1 := [(c, digCells st rest n, 67)]) (L2 := []) H (h0.here _ _ _ (.head _))

theorem Own.src_rest {w : World} {d : Nat} {rest : List Int} {n : Nat} (hr : rest.length = 64) : Src (fun w' => ∃ s' : St, Own w w' [(d, u32s s'.l ++ (u8s rest ++ [.int .u64 n]), 67)]) (.slice (some ⟨d, 8, none⟩) 64 64) rest := by
  refine Or.inr ⟨d, 8, 64, by rw [hr], by omega, fun w' ⟨s', h⟩ i hi => ?_⟩
  rw [h.cell (.head _)]
  exact dig_rest (st := s') (n := n) hr (by omega)

theorem Src.of_bytes {w : World} {L : St → List Ent} {v : Value} {bs : List Int} (h : BytesAt w v bs) (hn : ∀ k, blk v = some k → ∀ s, k ∉ (L s).map (·.1)) : Src (fun w' => ∃ s' : St, Own w w' (L s')) v bs := by
  rcases h.cell with h | ⟨b, off, cap, rfl, h2, h3⟩
  · exact Or.inl h
  · exact Or.inr ⟨b, off, cap, rfl, h2, fun w' ⟨s', ho⟩ i hi => ho.old (h3 i hi) (hn b (by simp [blk]; omega) s')⟩

theorem Own.src_of {w : World} {d : Nat} {rest : List Int} {n : Nat} : ∀ (w1 : World) (v : Value) (bs : List Int) {st : St}, Own w w1 [(d, digCells st rest n, 67)] → BytesAt w v bs → (∀ k, blk v = some k → k ≠ d) →
    Src (fun w' => ∃ s' : St, Own w1 w' [(d, u32s s'.l ++ (u8s rest ++ [.int .u64 n]), 67)]) v bs := by
  intro w1 v bs st h hv hne
  have hv1 : BytesAt w1 v bs := SlAt.own hv h (by simpa using hne)
  exact Src.of_bytes (L := fun s' => [(d, u32s s'.l ++ (u8s rest ++ [.int .u64 n]), 67)]) hv1 (fun k hk s => by simpa using hne k hk)

set_option maxRecDepth 100000 in
set_option maxHeartbeats 1000000 in
/-- few bytes behind a rest that is there: they are put behind it -/
theorem write_few (w : World) (d : Nat) (st : St) (rest bs : List Int) (n r : Nat) (v : Value) (hr : rest.length = 64) (hn : n % 64 = r) (hr0 : 0 < r) (hfew : r + bs.length < 64) (hN : n ≤ 140737488351232)
    (H : Own w w [(d, digCells st rest n, 67)]) (hv : BytesAt w v bs) (hne : ∀ k, blk v = some k → k ≠ d) :
    Calls Try.prog 29 #[.pointer (some ⟨d, 0, none⟩), v] w fun e w' => e = .returned (.tuple #[]) ∧ Own w w' [(d, digCells st (splice rest r bs) (n + bs.length), 67)] := by
  have E1 : ((n : Int) % 64) = (r : Int) := by omega
  have hdn := Lib.hid (dig_n (st := st) (n := n) hr)
  have hst := Lib.hid (dig_setN (st := st) (n := n) (m := n + bs.length) hr)
  have hsp := Lib.hid (dig_splice (st := st) (n := n + bs.length) (ys := bs) hr (by omega : r + bs.length ≤ 64))
  have hl73 := Lib.hid (length_digCells (st := st) (n := n) hr)
  have hl73' := Lib.hid (length_digCells (st := st) (n := n + bs.length) hr)
  have hv' := Lib.hid hv
  have hsl : ∃ len cap p, v = .slice p len cap ∧ len = bs.length := by
    rcases hv.cell with ⟨⟨p, rfl⟩, rfl⟩ | ⟨b, off, cap, rfl, _, _⟩ <;> exact ⟨_, _, _, rfl, rfl⟩
  obtain ⟨len, cap, p, rfl, rfl⟩ := hsl
  have hn' := Lib.hid hn
  clear hn hv
  go_enter Try.func29, Try.ntmps29
  have h64 : ¬ (64 = r) := by omega
  have hsl : ∀ w1, Own w w1 [(d, digCells st rest (n + bs.length), 67)] → SlAt w1 (.slice p bs.length cap) bs.length (u8s bs) := fun w1 h1 => hv'.out.own h1 (by simpa using hne)
  have hsl' := Lib.hid hsl
  clear hsl
  have htk : Hid ((u8s bs).take (64 - r) = u8s bs) := List.take_of_length_le (by simp; omega)
  have hmin : Hid (Nat.min bs.length (64 - r) = bs.length) := Nat.min_eq_left (by omega)
  go_wp2_with (first
    | (refine st_val rfl (rn_load H rfl rfl (.head _) rfl rfl hdn.out) ?_)
    | (refine st_skip rfl (rn_store (v := .int .u64 (n + bs.length : Nat)) H rfl rfl (by first | rfl | (simp; done)) rfl .head (by rw [hl73.out]; omega) rfl) ?_; clear H; intro w1 H; rw [hst.out] at H)
    | (refine st_val rfl (rn_sliceArr (l := r) (h := 64) rfl rfl size_u8 rfl (by exact .is rfl rfl rfl) (by exact .no _) (by omega) (by omega)) ?_)
    | (refine st_both rfl (rn_copy (sv := .slice p bs.length cap) H rfl rfl size_u8 rfl rfl (hsl'.out _ H) (length_ints _ _) .head (by rw [hl73'.out, hmin.out]; omega) (oneCell_ints _ _) hmin.out) ?_; clear H; intro w2 H; rw [htk.out, hsp.out] at H)
    | (refine st_slEx rfl (rn_sub (m := 0) (sv := .slice p bs.length cap) (l := bs.length) (h := bs.length) rfl rfl size_u8 rfl hv'.out (length_ints _ _) (by exact .is rfl rfl rfl) (by exact .no _) (by omega) (by omega) (by omega)) ?_; intro p2 c2 hb2))
  exact bodyPost_ret (v := .tuple #[]) (results_none rfl _ _ _) rfl ⟨rfl, H⟩

end Go.Proofs.Ytjcnhpnadfhjaaa
