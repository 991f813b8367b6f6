/- sha's digests: what Write does when blocks are full. -/
import Derived.Test.YtjcnhpnadfhjaaaDig1
namespace Go.Proofs.Ytjcnhpnadfhjaaa
open Go.RowKit

theorem BytesAt.of {w : World} {v : Value} {m : Nat} {xs : List Value} {ys : List Int} (h : SlAt w v m xs) (hx : xs = u8s ys) (hm : m = ys.length) : BytesAt w v ys := by
  subst hx hm; exact h

set_option maxRecDepth 100000 in
set_option maxHeartbeats 2000000 in
theorem write_even (w : World) (d : Nat) (st : St) (rest bs : List Int) (n : Nat) (v : Value) (hr : rest.length = 64) (hn : n % 64 = 0) (hN : n ≤ 140737488351232) (hB : bs.length ≤ 140737488351232)
    (H : Own w w [(d, digCells st rest n, 67)]) (hv : BytesAt w v bs) (hne : ∀ k, blk v = some k → k ≠ d) :
    Calls Try.prog 29 #[.pointer (some ⟨d, 0, none⟩), v] w fun e w' => e = .returned (.tuple #[]) ∧
      Own w w' [(d, digCells (comps st bs 0 (bs.length / 64)) (splice rest 0 (bs.drop (64 * (bs.length / 64)))) (n + bs.length), 67)] := by
  have E1 : ((n : Int) % 64) = 0 := by omega
  have hdn := Lib.hid (dig_n (st := st) (n := n) hr)
  have hst := Lib.hid (dig_setN (st := st) (n := n) (m := n + bs.length) hr)
  have hl73 := Lib.hid (length_digCells (st := st) (n := n) hr)
  have hv' := Lib.hid hv
  have hsl : ∃ len cap p, v = .slice p len cap ∧ len = bs.length := by
    rcases hv.cell with ⟨⟨p, rfl⟩, rfl⟩ | ⟨b, off, cap, rfl, _, _⟩ <;> exact ⟨_, _, _, rfl, rfl⟩
  obtain ⟨len, cap, p, rfl, rfl⟩ := hsl
  clear hv hn
  obtain ⟨q, hq⟩ : ∃ q, q = 64 * (bs.length / 64) := ⟨_, rfl⟩
  have hqle : q ≤ bs.length := by omega
  have hrem : bs.length - q < 64 := by omega
  have E2 : ((bs.length : Int) / 64 * 64) = (q : Int) := by omega
  have hcm : Hid (comps st (bs.take q) 0 ((bs.take q).length / 64) = comps st bs 0 (bs.length / 64)) := by
    show _ = _
    rw [show (bs.take q).length / 64 = bs.length / 64 by simp; omega]
    exact comps_congr _ (fun i hi => by rw [Nat.zero_add, List.getElem?_take, if_pos (by omega)])
  have hlt : Hid ((bs.take q).length ≤ 140737488351232) := by show _ ≤ _; simp; omega
  generalize hst2 : comps st bs 0 (bs.length / 64) = st2 at hcm ⊢
  have hsp := Lib.hid (show splice (digCells st2 rest (n + bs.length)) 8 (u8s (bs.drop q)) = _ from dig_splice (p := 0) (st := st2) (n := n + bs.length) (ys := bs.drop q) hr (by simp; omega))
  have hl73' := Lib.hid (length_digCells (st := st2) (n := n + bs.length) hr)
  have hx1 : Hid (((u8s bs).drop 0).take q = u8s (bs.take q)) := (List.map_take ..).symm
  have hx2 : Hid (((u8s bs).drop q).take (bs.length - q) = u8s (bs.drop q)) := (List.take_of_length_le (by simp)).trans (List.map_drop ..).symm
  have hx3 : Hid ((u8s (bs.drop q)).take 64 = u8s (bs.drop q)) := List.take_of_length_le (by simp; omega)
  have hmin : Hid (Nat.min (bs.length - q) 64 = bs.length - q) := Nat.min_eq_left (by omega)
  have hlq : Hid (q = (bs.take q).length) := by show _ = _; simp; omega
  have hlq2 : Hid (bs.length - q = (bs.drop q).length) := by show _ = _; simp
  have hsrc := Lib.hid (Own.src_of (w := w) (d := d) (rest := rest) (n := n + bs.length))
  have hq' := Lib.hid hq
  rw [← hq]
  clear hq hst2
  go_enter Try.func29, Try.ntmps29
  go_wp2_with (first
    | (refine st_val rfl (rn_load H rfl rfl (.head _) rfl rfl hdn.out) ?_)
    | (refine st_skip rfl (rn_store (v := .int .u64 (n + bs.length : Nat)) H rfl rfl (by first | rfl | (simp; done)) rfl .head (by rw [hl73.out]; omega) rfl) ?_; clear H; intro w1 H; rw [hst.out] at H)
    | (refine st_slEx rfl (rn_sub (m := q) (sv := .slice p bs.length cap) (l := 0) (h := q) rfl rfl size_u8 rfl hv'.out (length_ints _ _) (by exact .no _) (by exact .is rfl rfl rfl) (by omega) (by omega) (by omega)) ?_; intro p2 c2 hb2)
    | (go_at_call 33; refine (block_any _ d 67 st (u8s rest ++ [.int .u64 (n + bs.length : Nat)]) _ (bs.take q) (H.sub1 (.head _)) (hsrc.out _ _ _ H (BytesAt.of hb2.1 hx1.out hlq.out) (fun k hk => hne k (hb2.2 k hk))) hlt.out).mono ?_; rintro e w2 ⟨rfl, h2⟩; rw [hcm.out] at h2; have H2 := H.call1 h2; clear H h2; have H : Own w w2 [(d, digCells st2 rest (n + bs.length), 67)] := H2; clear H2))
  refine region_drew 10 (by kernel_rfl) (by kernel_rfl) (by kernel_rfl) ?_
  simp only [List.take_succ_cons, List.take_zero, List.drop_succ_cons, List.drop_zero]
  repeat (first
    | (refine qd_val rfl (fun m => rn_sliceAll rfl rfl size_u8 rfl (by omega)) ?_; go_frame)
    | (refine qd_slEx rfl (rn_sub (m := bs.length - q) (sv := .slice p bs.length cap) (l := q) (h := bs.length) rfl rfl size_u8 rfl hv'.out (length_ints _ _) (by exact .is rfl rfl rfl) (by exact .no _) (by omega) (by omega) rfl) ?_; intro p3 c3 hb3; go_frame)
    | go_big_quiet_step (fail))
  refine wpQuiet_nil ?_
  rintro w' hw'
  have H' := H
  clear H
  have H := (show Own w w' _ by obtain ⟨m, rfl⟩ := hw'; exact H'.drewN m)
  clear H' hw'
  have hb3' : SlAt w (.slice p3 (bs.length - q) c3) (bs.length - q) (u8s (bs.drop q)) := by have h := hb3.1; rw [hx2.out] at h; exact h
  have hs3 := Lib.hid (hb3'.own H (by simpa using fun k hk => hne k (hb3.2 k hk)))
  clear hb3 hb3'
  have hfit : Hid (8 + Nat.min (bs.length - q) 64 ≤ (digCells st2 rest (n + bs.length)).length) := by show _ ≤ _; rw [hl73'.out, hmin.out]; omega
  have hlen2 : Hid ((u8s (bs.drop q)).length = bs.length - q) := by show _ = _; simp
  go_wp2_with (refine st_both rfl (rn_copy (sv := .slice p3 (bs.length - q) c3) H rfl rfl size_u8 rfl rfl hs3.out hlen2.out .head hfit.out (oneCell_ints _ _) hmin.out) ?_; clear H; intro w4 H; rw [hx3.out, hsp.out] at H)
  go_end0
  exact ⟨rfl, H⟩

set_option maxRecDepth 100000 in
set_option maxHeartbeats 2000000 in
theorem write_fill (w : World) (d : Nat) (st : St) (rest bs : List Int) (n r f : Nat) (v : Value) (hr : rest.length = 64) (hn : n % 64 = r) (hr0 : 0 < r) (hrf : r + f = 64) (hf : f ≤ bs.length) (hN : n ≤ 140737488351232) (hB : bs.length ≤ 140737488351232)
    (H : Own w w [(d, digCells st rest n, 67)]) (hv : BytesAt w v bs) (hne : ∀ k, blk v = some k → k ≠ d) :
    Calls Try.prog 29 #[.pointer (some ⟨d, 0, none⟩), v] w fun e w' => e = .returned (.tuple #[]) ∧
      Own w w' [(d, digCells (comps (comps st (splice rest r (bs.take f)) 0 1) (bs.drop f) 0 ((bs.drop f).length / 64)) (splice (splice rest r (bs.take f)) 0 ((bs.drop f).drop (64 * ((bs.drop f).length / 64)))) (n + bs.length), 67)] := by
  have E1 : ((n : Int) % 64) = (r : Int) := by omega
  have hdn := Lib.hid (dig_n (st := st) (n := n) hr)
  have hst := Lib.hid (dig_setN (st := st) (n := n) (m := n + bs.length) hr)
  have hl73 := Lib.hid (length_digCells (st := st) (n := n) hr)
  have hl73a := Lib.hid (length_digCells (st := st) (n := n + bs.length) hr)
  have hv' := Lib.hid hv
  have hsl : ∃ len cap p, v = .slice p len cap ∧ len = bs.length := by
    rcases hv.cell with ⟨⟨p, rfl⟩, rfl⟩ | ⟨b, off, cap, rfl, _, _⟩ <;> exact ⟨_, _, _, rfl, rfl⟩
  obtain ⟨len, cap, p, rfl, rfl⟩ := hsl
  clear hv hn
  have hspA := Lib.hid (dig_splice (p := r) (st := st) (n := n + bs.length) (ys := bs.take f) hr (by simp; omega))
  have hr1 : (splice rest r (bs.take f)).length = 64 := by rw [length_splice _ _ _ (by simp; omega)]; exact hr
  have hxA : Hid ((u8s bs).take (64 - r) = u8s (bs.take f)) := by show _ = _; rw [show 64 - r = f by omega]; exact (List.map_take ..).symm
  have hminA : Hid (Nat.min bs.length (64 - r) = f) := by show _ = _; rw [show 64 - r = f by omega]; exact Nat.min_eq_right hf
  have h64 : ¬ (64 = r) := by omega
  generalize splice rest r (bs.take f) = rest1 at hspA hr1 ⊢
  have hys : Hid (((u8s bs).drop f).take (bs.length - f) = u8s (bs.drop f)) := (List.take_of_length_le (by simp)).trans (List.map_drop ..).symm
  have hyl : (bs.drop f).length = bs.length - f := by simp
  generalize bs.drop f = ys at hys hyl ⊢
  have hsrc1 : Hid (∀ w1 : World, Src (fun w' => ∃ s' : St, Own w1 w' [(d, u32s s'.l ++ (u8s rest1 ++ [.int .u64 (n + bs.length : Nat)]), 67)]) (.slice (some ⟨d, 8, none⟩) 64 64) rest1) := fun w1 => Own.src_rest hr1
  have hc1 : Hid (comps st rest1 0 (rest1.length / 64) = comps st rest1 0 1) := by show _ = _; rw [hr1]
  have hl1 : Hid (rest1.length ≤ 140737488351232) := by show _ ≤ _; rw [hr1]; omega
  generalize comps st rest1 0 1 = st1 at hc1 ⊢
  obtain ⟨ml, hml⟩ : ∃ ml, ml = ys.length := ⟨_, rfl⟩
  have hmle : ml + f = bs.length := by omega
  obtain ⟨q, hq⟩ : ∃ q, q = 64 * (ys.length / 64) := ⟨_, rfl⟩
  have hqle : q ≤ ml := by omega
  have hrem : ml - q < 64 := by omega
  have E2 : ((ml : Int) / 64 * 64) = (q : Int) := by omega
  have hcm : Hid (comps st1 (ys.take q) 0 ((ys.take q).length / 64) = comps st1 ys 0 (ys.length / 64)) := by
    show _ = _
    rw [show (ys.take q).length / 64 = ys.length / 64 by simp; omega]
    exact comps_congr _ (fun i hi => by rw [Nat.zero_add, List.getElem?_take, if_pos (by omega)])
  have hlt : Hid ((ys.take q).length ≤ 140737488351232) := by show _ ≤ _; simp; omega
  generalize hst2 : comps st1 ys 0 (ys.length / 64) = st2 at hcm ⊢
  have hsp := Lib.hid (show splice (digCells st2 rest1 (n + bs.length)) 8 (u8s (ys.drop q)) = _ from dig_splice (p := 0) (st := st2) (n := n + bs.length) (ys := ys.drop q) hr1 (by simp; omega))
  have hl73' := Lib.hid (length_digCells (st := st2) (n := n + bs.length) hr1)
  have hx1 : Hid (((u8s ys).drop 0).take q = u8s (ys.take q)) := (List.map_take ..).symm
  have hx2 : Hid (((u8s ys).drop q).take (ml - q) = u8s (ys.drop q)) := (List.take_of_length_le (by simp; omega)).trans (List.map_drop ..).symm
  have hx3 : Hid ((u8s (ys.drop q)).take 64 = u8s (ys.drop q)) := List.take_of_length_le (by simp; omega)
  have hmin : Hid (Nat.min (ml - q) 64 = ml - q) := Nat.min_eq_left (by omega)
  have hlq : Hid (q = (ys.take q).length) := by show _ = _; simp; omega
  have hsrc := Lib.hid (Own.src_of (w := w) (d := d) (rest := rest1) (n := n + bs.length))
  have hylen : Hid ((u8s ys).length = ml) := by show _ = _; simp; omega
  have hfm : Hid (bs.length - f = ml) := by show _ = _; omega
  have hlq2 : Hid (ml - q = (ys.drop q).length) := by show _ = _; simp; omega
  have hneH := Lib.hid hne
  have hmle' := Lib.hid hmle
  have hys' : Hid (((u8s bs).drop f).take ml = u8s ys) := by show _ = _; rw [← hfm.out]; exact hys.out
  clear hys
  have hslA := Lib.hid (fun w1 (h1 : Own w w1 [(d, digCells st rest (n + bs.length), 67)]) => hv'.out.own h1 (by simpa using hne))
  rw [← hq]
  clear hq hst2 hml hyl hr1
  have tok : True := trivial
  go_enter Try.func29, Try.ntmps29
  go_wp2_with (first
    | (refine st_val rfl (rn_load H rfl rfl (.head _) rfl rfl hdn.out) ?_)
    | (refine st_skip rfl (rn_store (v := .int .u64 (n + bs.length : Nat)) H rfl rfl (by first | rfl | (simp; done)) rfl .head (by rw [hl73.out]; omega) rfl) ?_; clear H; intro w1 H; rw [hst.out] at H)
    | (refine st_val rfl (rn_sliceArr (l := r) (h := 64) rfl rfl size_u8 rfl (by exact .is rfl rfl rfl) (by exact .no _) (by omega) (by omega)) ?_)
    | (refine st_val rfl (rn_sliceAll rfl rfl size_u8 rfl (by omega)) ?_)
    | (refine st_both rfl (rn_copy (sv := .slice p bs.length cap) H rfl rfl size_u8 rfl rfl (hslA.out _ H) (length_ints _ _) .head (by rw [hl73a.out, hminA.out]; omega) (oneCell_ints _ _) hminA.out) ?_; clear H; intro w2 H; rw [hxA.out, hspA.out] at H)
    | (refine st_slEx rfl (rn_sub (m := ml) (sv := .slice p bs.length cap) (l := f) (h := bs.length) rfl rfl size_u8 rfl hv'.out (length_ints _ _) (by exact .is rfl rfl rfl) (by exact .no _) (by omega) (by omega) hfm.out) ?_; intro p1 c1 hb1; have hbA : Hid (SlAt w (.slice p1 ml c1) ml (u8s ys)) := (by show SlAt w (.slice p1 ml c1) ml (u8s ys); have h := hb1.1; rw [hys'.out] at h; exact h); have hne1 : Hid (∀ k, blk (Value.slice p1 ml c1) = some k → k ≠ d) := fun k hk => hneH.out k (hb1.2 k hk); clear hb1)
    | (go_at_call 33; clear tok; refine (block_any _ d 67 st (u8s rest1 ++ [.int .u64 (n + bs.length : Nat)]) _ rest1 (H.sub1 (.head _)) (hsrc1.out _) hl1.out).mono ?_; rintro e w3 ⟨rfl, h3⟩; rw [hc1.out] at h3; have H3 := H.call1 h3; clear H h3; have H : Own w w3 [(d, digCells st1 rest1 (n + bs.length), 67)] := H3; clear H3)
    | (refine st_slEx rfl (rn_sub (m := q) (sv := .slice p1 ml c1) (l := 0) (h := q) rfl rfl size_u8 rfl hbA.out hylen.out (by exact .no _) (by exact .is rfl rfl rfl) (by omega) (by omega) (by omega)) ?_; intro p2 c2 hb2)
    | (go_at_call 33; refine (block_any _ d 67 st1 (u8s rest1 ++ [.int .u64 (n + bs.length : Nat)]) _ (ys.take q) (H.sub1 (.head _)) (hsrc.out _ _ _ H (BytesAt.of hb2.1 hx1.out hlq.out) (fun k hk => hne1.out k (hb2.2 k hk))) hlt.out).mono ?_; rintro e w3 ⟨rfl, h3⟩; rw [hcm.out] at h3; have H3 := H.call1 h3; clear H h3; have H : Own w w3 [(d, digCells st2 rest1 (n + bs.length), 67)] := H3; clear H3))
  refine region_drew 10 (by kernel_rfl) (by kernel_rfl) (by kernel_rfl) ?_
  simp only [List.take_succ_cons, List.take_zero, List.drop_succ_cons, List.drop_zero]
  repeat (first
    | (refine qd_val rfl (fun m => rn_sliceAll rfl rfl size_u8 rfl (by omega)) ?_; go_frame)
    | (refine qd_slEx rfl (rn_sub (m := ml - q) (sv := .slice p1 ml c1) (l := q) (h := ml) rfl rfl size_u8 rfl hbA.out hylen.out (by exact .is rfl rfl rfl) (by exact .no _) (by omega) (by omega) rfl) ?_; intro p3 c3 hb3; go_frame)
    | go_big_quiet_step (fail))
  refine wpQuiet_nil ?_
  rintro w' hw'
  have H' := H
  clear H
  have H := (show Own w w' _ by obtain ⟨m, rfl⟩ := hw'; exact H'.drewN m)
  clear H' hw'
  have hb3' : SlAt w (.slice p3 (ml - q) c3) (ml - q) (u8s (ys.drop q)) := by have h := hb3.1; rw [hx2.out] at h; exact h
  have hs3 := Lib.hid (hb3'.own H (by simpa using fun k hk => hne1.out k (hb3.2 k hk)))
  clear hb3 hb3'
  have hfit : Hid (8 + Nat.min (ml - q) 64 ≤ (digCells st2 rest1 (n + bs.length)).length) := by show _ ≤ _; rw [hl73'.out, hmin.out]; omega
  have hlen2 : Hid ((u8s (ys.drop q)).length = ml - q) := by show _ = _; rw [hlq2.out]; simp
  go_wp2_with (refine st_both rfl (rn_copy (sv := .slice p3 (ml - q) c3) H rfl rfl size_u8 rfl rfl hs3.out hlen2.out .head hfit.out (oneCell_ints _ _) hmin.out) ?_; clear H; intro w4 H; rw [hx3.out, hsp.out] at H)
  go_end0
  exact ⟨rfl, H⟩

end Go.Proofs.Ytjcnhpnadfhjaaa
