/- chirographlaw1.ShaCopies: the walk. -/
import Derived.Test.YtilglaacegjdoaaDigE
namespace Go.Proofs.Ytilglaacegjdoaa
open Go.RowKit

/-- what is known of a slice of bytes that was there -/
def Old (w : World) (v : Value) (bs : List Int) : Prop := BytesAt w v bs ∧ ∀ k, v.ownBlock = some k → k < w.heap.size

theorem Old.at {w w1 : World} {v : Value} {bs : List Int} {L : List Ent} (h : Old w v bs) (ho : Own w w1 L) (hn : ∀ k ∈ L.map (·.1), w.heap.size ≤ k) : BytesAt w1 v bs :=
  SlAt.own h.1 ho (fun j hj hm => by have := h.2 j hj; have := hn j hm; omega)
theorem Old.lt {w w1 : World} {v : Value} {bs : List Int} (h : Old w v bs) (hs : w.heap.size ≤ w1.heap.size) : ∀ k, v.ownBlock = some k → k < w1.heap.size := fun k hk => Nat.lt_of_lt_of_le (h.2 k hk) hs
theorem Old.ne {w : World} {v : Value} {bs : List Int} (h : Old w v bs) {d : Nat} (hd : w.heap.size ≤ d) : ∀ k, v.ownBlock = some k → k ≠ d := fun k hk => by have := h.2 k hk; omega
theorem Old.shape {w : World} {v : Value} {bs : List Int} (h : Old w v bs) : ∃ p c, v = .slice p bs.length c := by
  rcases h.1.cell with ⟨rfl, rfl⟩ | ⟨b, off, cap, rfl, _, _⟩
  · exact ⟨none, 0, rfl⟩
  · exact ⟨_, _, rfl⟩

theorem Old.sub {w : World} {v : Value} {xs : List Int} (h : Old w v xs) {p : Option Addr} {c l m : Nat} (hb : SlAt w (.slice p m c) m (((u8s xs).drop l).take m) ∧ ∀ k, (Value.slice p m c).ownBlock = some k → v.ownBlock = some k) (hl : ((xs.drop l).take m).length = m) : Old w (.slice p m c) ((xs.drop l).take m) := by
  refine ⟨?_, fun k hk => h.2 k (hb.2 k hk)⟩
  have h1 := hb.1
  unfold BytesAt
  rw [hl]
  have e : ((u8s xs).drop l).take m = u8s ((xs.drop l).take m) := by simp [ints, List.map_take, List.map_drop]
  rwa [e] at h1

theorem sub_old {P : Program} {o : Oper} {a : Act} {w : World} {t : TypeId} {x : Operand} {lo hi : Option Operand} (ho : o.op = .slice t x lo hi none) {e : TypeId} (hu : P.underlying t = some (.slice e)) (hsz : (P.info? e).map (·.size) = some 1) {p0 : Option Addr} {n c0 : Nat}
    (hx : a.eval x = .slice p0 n c0) {xs : List Int} (h : Old w (.slice p0 n c0) xs) (hn : n = xs.length) {l h' : Nat} (hl : BoundIs (lo.map a.eval) 0 l) (hh : BoundIs (hi.map a.eval) n h') (h1 : l ≤ h') (h2 : h' ≤ n) {zs : List Int} (hz : (xs.drop l).take (h' - l) = zs) :
    ∃ p c, (∀ w', (execOp a.eval o).run P w' = .ok (.value (.slice p zs.length c)) w') ∧ SlAt w (.slice p zs.length c) zs.length (ints .u8 zs) ∧ ∀ j, (Value.slice p zs.length c).ownBlock = some j → j < w.heap.size := by
  have hl' : h' - l = zs.length := by rw [← hz, List.length_take, List.length_drop]; omega
  have hb : SlAt w (.slice p0 n c0) n (u8s xs) := by have := h.1; rw [BytesAt, ← hn] at this; exact this
  obtain ⟨p, c, h3, h4, h5⟩ := rn_sub (m := zs.length) ho hu hsz hx hb (by rw [length_ints]; exact hn.symm) hl hh h1 h2 hl'
  refine ⟨p, c, h3, ?_, fun j hj => h.2 j (h5 j hj)⟩
  have e : ((u8s xs).drop l).take zs.length = u8s zs := by rw [← hl', ← hz]; simp [ints, List.map_take, List.map_drop]
  rwa [e] at h4

set_option maxRecDepth 100000 in
set_option maxHeartbeats 2000000 in
theorem shaCopies_row (w : World) (v0 : Value) (xs : List Int) (hv0 : BytesAt w v0 xs) (hlt0 : ∀ k, v0.ownBlock = some k → k < w.heap.size) (_ : ∀ i, i < xs.length → 0 ≤ xs[i]?.getD 0 ∧ xs[i]?.getD 0 < 256)
    (at_ : Int) (_ : IntKind.i64.min ≤ at_) (_ : at_ ≤ IntKind.i64.max)
    (v2 : Value) (ys : List Int) (hv2 : BytesAt w v2 ys) (hlt2 : ∀ k, v2.ownBlock = some k → k < w.heap.size) (_ : ∀ i, i < ys.length → 0 ≤ ys[i]?.getD 0 ∧ ys[i]?.getD 0 < 256) :
    Calls Try.prog 7 #[v0, .int .i64 at_, v2] w fun e w' => e = .returned (.bool true) ∧ Own w w' [] := by
  rename_i hb0 hm0 hm1 hb2
  clear hb0 hm0 hm1 hb2
  have O0 : Hid (Old w v0 xs) := ⟨hv0, hlt0⟩
  have O2 : Hid (Old w v2 ys) := ⟨hv2, hlt2⟩
  clear hv0 hlt0 hv2 hlt2
  obtain ⟨p0, c0, rfl⟩ := O0.out.shape
  obtain ⟨p2, c2, rfl⟩ := O2.out.shape
  obtain ⟨n, hn⟩ : ∃ n, n = xs.length := ⟨_, rfl⟩
  obtain ⟨m, hm⟩ : ∃ m, m = ys.length := ⟨_, rfl⟩
  rw [← hn] at O0 ⊢
  rw [← hm] at O2 ⊢
  have hn' := Lib.hid hn
  have hm' := Lib.hid hm
  clear hn hm
  have H := Own.refl w
  by_cases hbig : n ≤ 400 ∧ m ≤ 200
  · obtain ⟨hb1, hb2⟩ := hbig
    obtain ⟨k, hk0, hk1⟩ := rem_wrap at_ ((n : Int) + 1) (by omega) (by omega)
    have hk := Lib.hid hk0
    have hkn : k ≤ n := by omega
    clear hk0 hk1
    have hkl : Hid ((xs.take k).length = k) := by show _ = _; rw [List.length_take, ← hn'.out]; omega
    have hkr : Hid (((xs.drop k).take (n - k)).length = n - k) := by show _ = _; rw [List.length_take, List.length_drop, ← hn'.out]; omega
    have hkk : Hid (xs.take k ++ (xs.drop k).take (n - k) = xs) := by show _ = _; have e : (xs.drop k).take (n - k) = xs.drop k := List.take_of_length_le (by rw [List.length_drop, ← hn'.out]; omega); rw [e, List.take_append_drop]
    have tok1 : True := trivial
    go_enter Try.func7, Try.ntmps7
    go_wp2_with (first
      | (clear tok1; go_at_call 14; refine (new_e _).mono ?_; rintro e w2 ⟨d, csd, rfl, hd, hd1, h2⟩; have H2 := H.callNew h2 hd; have hd0 : w.heap.size ≤ d := Nat.le_trans H.size hd; clear H h2 hd; have H := H2; clear H2; have tok2 : True := trivial)
      | (clear tok2; refine st_slEx rfl (rn_sub (w := w) (m := k) (sv := .slice p0 n c0) (n := n) (xs := u8s xs) (l := 0) (h := k) rfl rfl size_u8 rfl (by have := O0.out.1; rw [BytesAt, ← hn'.out] at this; exact this) (by rw [length_ints]; exact hn'.out.symm) (by exact .no _) (by exact .is rfl rfl hk.out) (by omega) (by omega) (by omega)) ?_; intro p3 c3 hb3; have O3 : Hid (Old w (.slice p3 k c3) (xs.take k)) := O0.out.sub hb3 hkl.out; clear hb3; have tok3 : True := trivial)
      | (clear tok3; go_at_call 17; refine (write_e _ d [] (xs.take k) csd _ hd1 (by simp) (by rw [hkl.out]; omega) (H.sub1 (.head _)) (O3.out.at H (by simpa using hd0)) (O3.out.ne hd0)).mono ?_; rintro e w3 ⟨rfl, csd1, hd2, h3⟩; have H2 := H.call1 h3; clear H h3 hd1; have H := H2; clear H2; have tok4 : True := trivial)
      | (clear tok4; go_at_call 15; refine (copy_e _ d (xs.take k) csd1 hd2 (H.sub1 (.head _))).mono ?_; rintro e w4 ⟨x, rfl, hx, h3⟩; have H2 := H.callNew h3 hx; have hx0 : w.heap.size ≤ x := Nat.le_trans H.size hx; clear H h3 hx; have H := H2; clear H2; have tok5 : True := trivial)
      | (clear tok5; go_at_call 17; refine (write_e _ x (xs.take k) ys csd1 _ hd2 (by rw [hkl.out]; omega) (by rw [← hm'.out]; omega) (H.sub1 (.head _)) (O2.out.at H (by simp; omega)) (O2.out.ne hx0)).mono ?_; rintro e w5 ⟨rfl, csx, hdx, h3⟩; have H2 := H.call1 h3; clear H h3; have H := H2; clear H2; have tok6 : True := trivial)
      | (clear tok6; refine st_slEx rfl (rn_sub (w := w) (m := n - k) (sv := .slice p0 n c0) (n := n) (xs := u8s xs) (l := k) (h := n) rfl rfl size_u8 rfl (by have := O0.out.1; rw [BytesAt, ← hn'.out] at this; exact this) (by rw [length_ints]; exact hn'.out.symm) (by exact .is rfl rfl hk.out) (by exact .no _) (by omega) (by omega) (by omega)) ?_; intro p4 c4 hb4; have O4 : Hid (Old w (.slice p4 (n - k) c4) ((xs.drop k).take (n - k))) := O0.out.sub hb4 hkr.out; clear hb4; have tok7 : True := trivial)
      | (clear tok7; go_at_call 17; refine (write_e _ d (xs.take k) ((xs.drop k).take (n - k)) csd1 _ hd2 (by rw [hkl.out]; omega) (by rw [hkr.out]; omega) (H.sub1 (.tail _ (.head _))) (O4.out.at H (by simp; omega)) (O4.out.ne hd0)).mono ?_; rintro e w6 ⟨rfl, csd2, hd3, h3⟩; have H2 := Own.callAt (L1 := [(x, csx, 48)]) H h3; clear H h3 hd2; rw [hkk.out] at hd3; have H := H2; clear H2; have tok8 : True := trivial)
      | (clear tok8; go_at_call 15; refine (copy_e _ x (xs.take k ++ ys) csx hdx (H.sub1 (.head _))).mono ?_; rintro e w7 ⟨y, rfl, hy, h3⟩; have H2 := H.callNew h3 hy; have hy0 : w.heap.size ≤ y := Nat.le_trans H.size hy; clear H h3 hy; have H := H2; clear H2))
    rw [hk.out]
    have hlen1 : Hid ((xs.take k ++ ys).length ≤ 140737488351232) := by show _ ≤ _; rw [List.length_append, hkl.out, ← hm'.out]; omega
    have hlen0 : Hid (xs.length ≤ 140737488351232) := by show _ ≤ _; rw [← hn'.out]; omega
    obtain ⟨SA, hSA⟩ : ∃ S, sha xs = S := ⟨_, rfl⟩
    obtain ⟨SB, hSB⟩ : ∃ S, sha (xs.take k ++ ys) = S := ⟨_, rfl⟩
    have lA : Hid (SA.length = 32) := hSA ▸ length_sha _
    have lB : Hid (SB.length = 32) := hSB ▸ length_sha _
    have eA : ∀ w, (Op.equalIn 10000 25 (.agg (u8s SA).toArray) (.agg (u8s SA).toArray)).run Try.prog w = .ok true w := fun w => by rw [eqHash w SA SA lA.out lA.out, decide_eq_true rfl]
    have eB : ∀ w, (Op.equalIn 10000 25 (.agg (u8s SB).toArray) (.agg (u8s SB).toArray)).run Try.prog w = .ok true w := fun w => by rw [eqHash w SB SB lB.out lB.out, decide_eq_true rfl]
    have hnew : ∀ b ∈ ([(y, csx, 48), (x, csx, 48), (d, csd2, 48)] : List Ent).map (·.1), w.heap.size ≤ b := by simp; omega
    have hend : Hid (∀ w', Own w7 w' [] → Own w w' []) := fun w' h => (H.call0 h).end0 hnew
    have cd : Hid (∀ w', Own w7 w' [] → Calls Try.prog 16 #[.pointer (some ⟨d, 0, none⟩)] w' fun e w'' => e = .returned (.agg (u8s SA).toArray) ∧ Own w' w'' []) := fun w' h => hSA ▸ sum_e w' d xs csd2 hd3 hlen0.out ((H.call0 h).sub1 (by simp))
    have cx : Hid (∀ w', Own w7 w' [] → Calls Try.prog 16 #[.pointer (some ⟨x, 0, none⟩)] w' fun e w'' => e = .returned (.agg (u8s SB).toArray) ∧ Own w' w'' []) := fun w' h => hSB ▸ sum_e w' x _ csx hdx hlen1.out ((H.call0 h).sub1 (by simp))
    have cy : Hid (∀ w', Own w7 w' [] → Calls Try.prog 16 #[.pointer (some ⟨y, 0, none⟩)] w' fun e w'' => e = .returned (.agg (u8s SB).toArray) ∧ Own w' w'' []) := fun w' h => hSB ▸ sum_e w' y _ csx hdx hlen1.out ((H.call0 h).sub1 (by simp))
    have cb : Hid (∀ w', Own w7 w' [] → Calls Try.prog 10 #[.slice p0 n c0] w' fun e w'' => e = .returned (.agg (u8s SA).toArray) ∧ Own w' w'' []) := fun w' h => hSA ▸ shaSum_any w' _ xs (O0.out.at (H.call0 h) hnew) (O0.out.lt (H.call0 h).size) hlen0.out
    have ca : Hid (∀ w' v, Buf 5 .u8 w7 w' [] v (xs.take k ++ ys) → Calls Try.prog 10 #[v] w' fun e w'' => e = .returned (.agg (u8s SB).toArray) ∧ Own w' w'' []) := fun w' v hB => hSB ▸ shaSum_any w' v _ hB.bytesAt hB.lt hlen1.out
    have O0' : Hid (Old w7 (.slice p0 n c0) xs) := ⟨O0.out.at H hnew, O0.out.lt H.size⟩
    have O2' : Hid (Old w7 (.slice p2 m c2) ys) := ⟨O2.out.at H hnew, O2.out.lt H.size⟩
    have hkl2 : Hid ((xs.take k).length ≤ 400) := by show _ ≤ _; rw [hkl.out]; omega
    have hyl2 : Hid (ys.length ≤ 200) := by show _ ≤ _; rw [← hm'.out]; omega
    have hmid : Hid ((xs.drop 0).take (k - 0) = xs.take k) := rfl
    clear H hSA hSB hnew hdx hd3 hlen0 hlen1 O0 O2 O3 O4 hk hkk hkr hkl hm'
    refine region_app 28 (by kernel_rfl) (by kernel_rfl) (by kernel_rfl) [.val (.bool true), .val (.bool true), .val (.pointer (some ⟨d, 0, none⟩)), .val (.agg (u8s SA).toArray), .val (.slice p0 n c0), .val (.agg (u8s SA).toArray), .val (.bool true), .val (.bool true), .val (.bool true), .val (.pointer (some ⟨x, 0, none⟩)), .val (.agg (u8s SB).toArray),
      .rel (fun w' v => Buf 5 .u8 w7 w' [] v []), .val (.slice p0 n c0), .val (.int .i64 k), .rel (OldIs w7 .u8 (xs.take k)), .app ([] : List Int).length (fun w' v => Buf 5 .u8 w7 w' [] v ([] ++ xs.take k)), .val (.slice p2 m c2), .app ([] ++ xs.take k).length (fun w' v => Buf 5 .u8 w7 w' [] v ([] ++ xs.take k ++ ys)), .val (.agg (u8s SB).toArray), .val (.bool true), .val (.bool true), .val (.bool true),
      .val (.pointer (some ⟨y, 0, none⟩)), .val (.agg (u8s SB).toArray), .val (.pointer (some ⟨x, 0, none⟩)), .val (.agg (u8s SB).toArray), .val (.bool true), .val (.bool true)] rfl ?_ ?_
    · simp only [gAll, gRow, Sq.pres, or_true, true_and, and_true]
      refine ⟨⟨Or.inr (Or.inr fun _ _ _ hg hb => hb.gr (Nat.le_refl _) hg), Or.inr (Or.inr fun _ _ _ _ h => h), Or.inl trivial, Or.inr (Or.inl (by kernel_rfl))⟩, Or.inr (Or.inr fun _ _ _ hg hb => hb.gr (Nat.zero_le _) hg), Or.inr (Or.inr fun _ _ _ _ h => h), Or.inr (Or.inr fun _ _ _ hg hb => hb.gr (Nat.le_refl _) hg), Or.inl trivial⟩
    have tok1 : True := trivial
    try go_frame
    repeat (first
      | (clear tok1; refine sq_callN (args := #[]) rfl rfl (by simp) Try.func9 (by kernel_rfl) (by kernel_rfl) (fun w' _ _ => told_any w') ?_; go_frame; have tok2 : True := trivial)
      | (clear tok2; refine sq_callN (args := #[.pointer (some ⟨d, 0, none⟩)]) rfl rfl (by simp [Act.eval]) Try.func16 (by kernel_rfl) (by kernel_rfl) (fun w' hw' _ => cd.out w' hw') ?_; go_frame; have tok3 : True := trivial)
      | (clear tok3; refine sq_callN (args := #[.slice p0 n c0]) rfl rfl (by simp [Act.eval]) Try.func10 (by kernel_rfl) (by kernel_rfl) (fun w' hw' _ => cb.out w' hw') ?_; go_frame; have tok4 : True := trivial)
      | (clear tok4; refine sq_callN (args := #[.pointer (some ⟨x, 0, none⟩)]) rfl rfl (by simp [Act.eval]) Try.func16 (by kernel_rfl) (by kernel_rfl) (fun w' hw' _ => cx.out w' hw') ?_; go_frame; have tok5 : True := trivial)
      | (clear tok5; refine sq_litB (xs := []) (k := .u8) (e := 5) rfl rfl rfl (by simp) (fun w' => by kernel_rfl) ?_; intro v63; go_frame; have tok6 : True := trivial)
      | (clear tok6; refine sq_old rfl (sub_old rfl rfl size_u8 rfl O0'.out hn'.out (l := 0) (h' := k) (by exact .no _) (by exact .is rfl rfl rfl) (by omega) (by omega) hmid.out) ?_; intro v66; go_frame; have tok7 : True := trivial)
      | (clear tok7; refine sq_app (Buf.mono) rfl (fun w' hw' hF => append_both (v := v63) (xv := v66) (hF.1.2 _ rfl (List.mem_of_elem_eq_true (by kernel_rfl))) elem_u8 rfl rfl rfl rfl ((hF.2 _ rfl (List.mem_of_elem_eq_true (by kernel_rfl))).at hw') (by have := hkl2.out; simp only [List.length_nil]; omega) (by have := hkl2.out; simp only [List.length_nil]; omega)) ?_; intro v67; go_frame; have tok8 : True := trivial)
      | (clear tok8; refine sq_app (Buf.mono) rfl (fun w' hw' hF => append_both (v := v67) (xv := .slice p2 m c2) (hF.2 _ rfl (List.mem_of_elem_eq_true (by kernel_rfl))) elem_u8 rfl rfl rfl rfl (O2'.out.at hw' (by simp)) (by have := hkl2.out; have := hyl2.out; simp only [List.nil_append]; omega) (by have := hkl2.out; have := hyl2.out; simp only [List.nil_append]; omega)) ?_; intro v69; go_frame; have tok9 : True := trivial)
      | (clear tok9; refine sq_callN (v := .agg (u8s SB).toArray) (args := #[v69]) rfl rfl (by simp [Act.eval]) Try.func10 (by kernel_rfl) (by kernel_rfl) (fun w' hw' hF => ca.out w' v69 (hF.2 _ rfl (List.mem_of_elem_eq_true (by kernel_rfl)))) ?_; go_frame; have tok10 : True := trivial)
      | (clear tok10; refine sq_callN (args := #[.pointer (some ⟨y, 0, none⟩)]) rfl rfl (by simp [Act.eval]) Try.func16 (by kernel_rfl) (by kernel_rfl) (fun w' hw' _ => cy.out w' hw') ?_; go_frame; have tok11 : True := trivial)
      | (clear tok11; refine sq_callN (args := #[.pointer (some ⟨x, 0, none⟩)]) rfl rfl (by simp [Act.eval]) Try.func16 (by kernel_rfl) (by kernel_rfl) (fun w' hw' _ => cx.out w' hw') ?_; go_frame)
      | (refine sq_val (fun w' hw' hF => ?_) ⟨_, rfl, Nat.le_of_ble_eq_true rfl⟩ ?_
         · go_big_quiet_step (fail)
           exact rfl
         go_frame))
    refine sq_nil ?_
    intro w' hw' _
    have H' := Lib.hid (hend.out w' hw')
    clear cd cx cy cb ca hend O0' O2'
    simp only [List.drop_succ_cons, List.drop_zero]
    go_wp2_with fail
    go_ret
    exact ⟨rfl, H'.out⟩
  · by_cases hb1 : 400 < n
    · clear hbig
      have tok1 : True := trivial
      go_enter Try.func7, Try.ntmps7
      go_wp2_with (first
        | (clear tok1; go_at_call 14; refine (new_e _).mono ?_; rintro e w2 ⟨d, csd, rfl, hd, hd1, h2⟩; have H2 := H.callNew h2 hd; have hd0 : w.heap.size ≤ d := Nat.le_trans H.size hd; clear H h2 hd; have H := H2; clear H2; have tok2 : True := trivial)
        | (clear tok2; go_at_call 9; refine (told_any _).mono ?_; rintro e w3 ⟨rfl, h3⟩; have H2 := H.call0 h3; clear H h3; have H := H2; clear H2))
      have H' := Lib.hid (H.end0 (by simpa using hd0))
      go_ret
      exact ⟨rfl, H'.out⟩
    · have hb2 : 200 < m := by omega
      have hb1 : n ≤ 400 := by omega
      clear hbig
      have tok1 : True := trivial
      go_enter Try.func7, Try.ntmps7
      go_wp2_with (first
        | (clear tok1; go_at_call 14; refine (new_e _).mono ?_; rintro e w2 ⟨d, csd, rfl, hd, hd1, h2⟩; have H2 := H.callNew h2 hd; have hd0 : w.heap.size ≤ d := Nat.le_trans H.size hd; clear H h2 hd; have H := H2; clear H2; have tok2 : True := trivial)
        | (clear tok2; go_at_call 9; refine (told_any _).mono ?_; rintro e w3 ⟨rfl, h3⟩; have H2 := H.call0 h3; clear H h3; have H := H2; clear H2))
      have H' := Lib.hid (H.end0 (by simpa using hd0))
      go_ret
      exact ⟨rfl, H'.out⟩
end Go.Proofs.Ytilglaacegjdoaa
