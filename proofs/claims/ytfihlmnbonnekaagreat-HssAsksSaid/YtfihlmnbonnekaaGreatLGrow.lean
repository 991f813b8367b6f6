/- lms: a tree is made, once. -/
import Derived.Test.YtfihlmnbonnekaaGreatMc
import Derived.Test.YtfihlmnbonnekaaGreatMd
import Derived.Test.YtfihlmnbonnekaaGreatEffA
namespace Go.Proofs.YtfihlmnbonnekaaGreat
open Go.RowKit
set_option maxHeartbeats 32000000
section
variable {P : Program} {o : Oper} {a : Act} {w : World}
theorem rn_idxArrN {t : TypeId} {x ix : Operand} (ho : o.op = .indexAddr t x ix) {n e sz : Nat} (hu : P.underlying t = some (.array n e)) (hs : (P.info? e).map (·.size) = some sz) {b i : Nat} (hx : a.eval x = .pointer (some ⟨b, i, none⟩)) {k : IntKind} {z : Int} (hj : a.eval ix = .int k z) {j : Nat} (hz : z = (j : Int)) (h1 : j < n) {q : Nat} (hq : i + sz * j = q) :
 (execOp a.eval o).run P w = .ok (.value (.pointer (some ⟨b, q, none⟩))) w := by
 have h := rn_idxArr (w := w) ho hu hs hx hj (by omega) (by omega)
 rw [h, ← hq, hz, Int.toNat_natCast, Nat.mul_comm]
end
theorem leaf_node (id : List Int) (r : Nat) (x : List Int) : sha (hashIn id r 33410 [x]) = leafOf id r x := by
 unfold hashIn leafOf
 rw [show numB ((33410 : Nat) : Int) 2 = [130, 130] by kernel_rfl, List.append_assoc]
 simp
theorem inner_node (id : List Int) (r : Nat) (x y : List Int) : sha (hashIn id r 33667 [x, y]) = innerOf id r x y := by
 unfold hashIn innerOf
 rw [show numB ((33667 : Nat) : Int) 2 = [131, 131] by kernel_rfl, List.append_assoc]
 simp
def StS (wr : World) (d0 : Nat) (vs : List Value) (T : TypeId) : Nat → Act → World → Prop
 | 0, _, w' => Own wr w' []
 | 1, a', w' => Own wr w' [] ∧ ∃ g, a'.tmps.getD d0 undef = .pointer (some ⟨g, 0, none⟩) ∧ wr.heap.size ≤ g ∧ w'.heap[g]? = some (.cells vs.toArray T (0, 0))
 | _, _, _ => False
theorem StS.own {wr : World} {d0 : Nat} {vs : List Value} {T : TypeId} {w' : World} : ∀ (s : Nat) {a' : Act}, StS wr d0 vs T s a' w' → Own wr w' []
 | 0, _, h => h
 | 1, _, h => h.1
theorem StS.m {wr : World} {d0 : Nat} {vs : List Value} {T : TypeId} : ∀ s a' w1 w2, StS wr d0 vs T s a' w1 → Own w1 w2 [] → StS wr d0 vs T s a' w2
 | 0, _, _, _, h, h2 => h.trans h2
 | 1, _, _, _, ⟨h, g, h1, h3, h4⟩, h2 => ⟨h.trans h2, g, h1, h3, by rw [h2.keep g (Array.getElem?_eq_some_iff.1 h4).1 (by simp)]; exact h4⟩
theorem StS.p {wr : World} {d0 : Nat} {vs : List Value} {T : TypeId} : ∀ s (a' : Act) w' d v, (d ∉ [d0] ∨ s ≤ 0) → StS wr d0 vs T s a' w' → StS wr d0 vs T s (a'.put (some d) v) w'
 | 0, _, _, _, _, _, h => h
 | 1, a', _, d, v, hd, ⟨h, g, h1, h3, h4⟩ => by
   refine ⟨h, g, ?_, h3, h4⟩
   have hne : d ≠ d0 := by
    rcases hd with hd | hd
    · simpa using hd
    · omega
   rw [← h1]
   show (a'.tmps.setIfInBounds d v).getD d0 undef = _
   simp [hne]
def CellN (B n : Nat) (T : TypeId) : World → Value → Prop := fun w v => ∃ g cs, v = .pointer (some ⟨g, 0, none⟩) ∧ B ≤ g ∧ cs.length = n ∧ w.heap[g]? = some (.cells (List.toArray cs) T (0, 0))
theorem CellN.mono {B n : Nat} {T : TypeId} : Mono (CellN B n T) := fun w1 w2 v h ⟨g, c, h1, h2, h3, h4⟩ => ⟨g, c, h1, h2, h3, by rw [h.keep g (Array.getElem?_eq_some_iff.1 h4).1 (by simp)]; exact h4⟩
def SeT (n : Nat) (T : TypeId) : World → World → Prop := fun w1 w2 => ∃ g cs cs', w1.heap[g]? = some (.cells (List.toArray cs) T (0, 0)) ∧ Own w1 w2 [(g, cs', T)] ∧ List.length cs' = n
theorem CellN.presS {B n : Nat} {T : TypeId} : ∀ w1 w2 v, SeT n T w1 w2 → CellN B n T w1 v → CellN B n T w2 v := fun w1 w2 v ⟨g, cs, cs', h1, h2, h3⟩ ⟨b, c, e1, e2, e3, e4⟩ => by
 by_cases e : b = g
 · subst e
   rw [h1] at e4
   exact ⟨b, cs', e1, e2, h3, h2.here _ _ _ (.head _)⟩
 · exact ⟨b, c, e1, e2, e3, by rw [h2.keep b (Array.getElem?_eq_some_iff.1 e4).1 (by simpa using e)]; exact e4⟩
theorem cellN_alloc {P : Program} {o : Oper} {a : Act} {w w1 : World} {ty : TypeId} {cs : List Value} {n : Nat} (ho : o.op = .alloc ty) (hz : ((P.info? ty).bind (·.zero)).map (fun z => z.cells.toList) = some cs) (hn : cs.length = n) (hw : w.heap.size ≤ w1.heap.size) :
 YieldsTo P o a w1 (fun v w' => Own w1 w' [] ∧ CellN w.heap.size n ty w' v) := by
 obtain ⟨g, w2, hr, hg, ho1⟩ := rn_alloc (P := P) (o := o) (a := a) (Own.refl w1) ho hz
 exact yieldsTo_val' hr ⟨ho1.end0 (by simpa using hg), g, cs, rfl, Nat.le_trans hw hg, hn, ho1.here _ _ _ (.head _)⟩
theorem Own.binAt {w0 w : World} {L : List Ent} (H : Own w0 w L) {b o : Nat} {cs : List Value} {T : TypeId} {x : List Int} {n m : Nat} (hm : (b, cs, T) ∈ L) (hx : ∀ j v, (u8s x)[j]? = some v → cs[o + j]? = some v) (hn : n = x.length) (hnm : n ≤ m) : BIn x w (.slice (some ⟨b, o, none⟩) n m) := by
 refine ⟨⟨_, _, by rw [hn]⟩, Or.inr ⟨b, o, m, by rw [hn], ⟨by omega, fun h => List.eq_nil_of_length_eq_zero (by rw [length_ints]; omega)⟩, fun i v hv => by rw [H.cell hm]; exact hx i v hv⟩, fun k hk => ?_⟩
 obtain ⟨h1, _⟩ := blk_some hk
 rw [← h1]
 exact H.lt hm
theorem tbl_at {N : Nat → List Int} (hN : ∀ r, (N r).length = 32) {j i : Nat} (h : j < i) (h64 : i < 64) {q : Nat} {v : Value} (hq : (u8s (N i))[q]? = some v) : (u8s (tblOf N j))[32 * i + q]? = some v := by
 have hl : q < 32 := by rw [← hN i, ← length_ints .u8]; exact (List.getElem?_eq_some_iff.1 hq).1
 rw [← tblOf_get hN h h64, show ∀ (l : List Int) n, u8s ((l.drop n).take 32) = ((u8s l).drop n).take 32 by intro l n; simp [ints, List.map_take, List.map_drop], List.getElem?_take_of_lt hl, List.getElem?_drop] at hq
 exact hq
set_option maxRecDepth 100000 in
theorem grow1_any (w : World) (b c : Nat) (id seed : List Int) (h16 : id.length = 16) (h32 : seed.length = 32) (k : Nat) (hk : k = 1 ∨ k = 2 ∨ k = 4 ∨ k = 8)
 (H0 : Own w w [(b, treeG (id ++ seed) k 0 1 (List.replicate 2048 0) 0, 74), (c, [.pointer (some ⟨b, 0, none⟩)], 30)]) :
 Calls Tryz.prog 68 #[.pointer (some ⟨c, 0, none⟩)] w fun e w' => e = .returned (.tuple #[]) ∧ Own w w' [(b, treeG (id ++ seed) k 0 1 (tblOf (nodeOf id seed k) 0) 63, 74), (c, [.pointer (some ⟨b, 0, none⟩)], 30)] := by
 obtain ⟨ss, hss⟩ : ∃ s, s = id ++ seed := ⟨_, rfl⟩
 have hs48 : Hid (ss.length = 48) := by show _ = _; rw [hss, List.length_append]; omega
 have hpub : Hid (∀ w' (r : Nat), 32 ≤ r → r < 64 → Calls Tryz.prog 69 #[.agg (u8s ss).toArray, .int .i64 ((r : Int) - 32), .int .i64 k] w' fun e w'' => e = .returned (.tuple #[.agg (u8s (pubOf id seed (r - 32) k)).toArray, .int .i64 0]) ∧ Own w' w'' []) := fun w' r h1 h2 => by
  have h := public_any w' id seed h16 h32 (r - 32) k (by omega) hk
  rw [show (((r - 32 : Nat) : Int)) = (r : Int) - 32 by omega] at h
  rw [hss]; exact h
 have hlf : Hid (∀ w' (r : Nat) v x, r < 64 → LitL [x] w' v → x.length = 32 → Calls Tryz.prog 52 #[.agg (u8s id).toArray, .int .i64 r, .int .i64 33410, v] w' fun e w'' => e = .returned (.agg (u8s (leafOf id r x)).toArray) ∧ Own w' w'' []) := fun w' r v x h64 h hx => by
  have h2 := node_any w' id h16 r 33410 (by omega) (by omega) v [x] h (by simp; omega) (by simp)
  rw [leaf_node] at h2; exact h2
 have hin : Hid (∀ w' (r : Nat) v x y, r < 64 → LitL [x, y] w' v → x.length = 32 → y.length = 32 → Calls Tryz.prog 52 #[.agg (u8s id).toArray, .int .i64 r, .int .i64 33667, v] w' fun e w'' => e = .returned (.agg (u8s (innerOf id r x y)).toArray) ∧ Own w' w'' []) := fun w' r v x y h64 h hx hy => by
  have h2 := node_any w' id h16 r 33667 (by omega) (by omega) v [x, y] h (by simp; omega) (by simp)
  rw [inner_node] at h2; exact h2
 have hN1 : Hid (∀ r, 32 ≤ r → leafOf id r (pubOf id seed (r - 32) k) = nodeOf id seed k r) := fun r h => (nodeOf_leaf id seed k h).symm
 have hN2 : Hid (∀ r, 0 < r → r < 32 → innerOf id r (nodeOf id seed k (2 * r)) (nodeOf id seed k (2 * r + 1)) = nodeOf id seed k r) := fun r h0 h => (nodeOf_inner id seed k h0 h).symm
 have hPl : Hid (∀ q, (pubOf id seed q k).length = 32) := fun q => length_pubOf id seed q k
 have hPb : Hid (∀ q, IsBytes (pubOf id seed q k)) := fun q => isBytes_sha _
 have hNl : Hid (∀ r, (nodeOf id seed k r).length = 32) := length_nodeOf id seed k
 have hNb : Hid (∀ r, IsBytes (nodeOf id seed k r)) := isBytes_nodeOf id seed k
 obtain ⟨N, hN⟩ : ∃ N, N = nodeOf id seed k := ⟨_, rfl⟩
 rw [← hN] at hN1 hN2 hNl hNb ⊢
 obtain ⟨Pb, hPb0⟩ : ∃ p, p = fun q => pubOf id seed q k := ⟨_, rfl⟩
 have hPe : ∀ q, pubOf id seed q k = Pb q := fun q => by rw [hPb0]
 simp only [hPe] at hpub hN1 hPl hPb
 have hid16 : Hid (∀ j v, (u8s id)[j]? = some v → (u8s ss)[j]? = some v) := fun j v h => by
  rw [hss, u8s_app, List.getElem?_append_left (List.getElem?_eq_some_iff.1 h).1]; exact h
 have hsz := Hh (size_idL h16)
 have hsz48 : Hid ((Tryz.prog.info? 26).map (·.size) = some (u8s ss).length) := by show _ = _; rw [length_ints, hs48.out]; exact size_secret
 rw [← hss] at H0 ⊢
 rw [← tblOf_start (N := N)] at H0
 have H := H0
 clear H0 hss hPb0 hPe hN h16 h32 hk
 go_enter Tryz.func68, Tryz.ntmps68
 go_wp2_with fail
 go_loopw [1, 2, 3] (fun v1 _ _ wr => ∃ (r : Nat), r ≤ 63 ∧ v1 = .int .i64 ((r : Nat) : Int) ∧ Own w wr [(b, treeG ss k 0 1 (tblOf N r) (63 - (r : Int)), 74), (c, [.pointer (some ⟨b, 0, none⟩)], 30)]) (fun v1 _ _ _ => (intOf v1).toNat)
 case atStart => exact ⟨63, by omega, rfl, H⟩
 case round =>
  clear H
  obtain ⟨r, hr, rfl, H⟩ := hrel
  by_cases hr0 : 0 < r
  · have HW := Hh H
    have c_c : Hid (∀ w', Own wr w' [] → w'.cell? ⟨c, 0, none⟩ = some (.pointer (some ⟨b, 0, none⟩))) := fun w' h => (HW.out.call0 h).cell (.tail _ (.head _)) 0
    have c_s : Hid (∀ w', Own wr w' [] → ∀ j v, (u8s ss)[j]? = some v → w'.cell? ⟨b, 0 + j, none⟩ = some v) := fun w' h j v hj => by rw [(HW.out.call0 h).cell (.head _), Nat.zero_add]; exact tg_s hj
    have c_i : Hid (∀ w', Own wr w' [] → ∀ j v, (u8s id)[j]? = some v → w'.cell? ⟨b, 0 + j, none⟩ = some v) := fun w' h j v hj => c_s.out w' h j v (hid16.out j v hj)
    have c_k : Hid (∀ w', Own wr w' [] → w'.cell? ⟨b, 48, none⟩ = some (.int .i64 k)) := fun w' h => ((HW.out.call0 h).cell (.head _) 48).trans (tg_k hs48.out)
    have hadd : Hid (∀ w', Own w w' [(b, treeG ss k 0 1 (tblOf N (r - 1)) (63 - (r : Int)), 74), (c, [.pointer (some ⟨b, 0, none⟩)], 30)] → Calls Tryz.prog 70 #[.pointer (some ⟨b, 2100, none⟩), .int .i64 1] w' fun e w'' => e = .returned (.int .i64 (63 - (r : Int) + 1)) ∧ Own w w'' [(b, treeG ss k 0 1 (tblOf N (r - 1)) (63 - (r : Int) + 1), 74), (c, [.pointer (some ⟨b, 0, none⟩)], 30)]) := fun w' h => iadd_any _ _ h (tg_m hs48.out (length_tblOf hNl.out _)) (by unfold wrap64; omega) (by rw [tg_setm hs48.out (length_tblOf hNl.out _)]; exact .head)
    have hspl : Hid (splice (treeG ss k 0 1 (tblOf N r) (63 - (r : Int))) (52 + 32 * r) (u8s (N r)) = treeG ss k 0 1 (tblOf N (r - 1)) (63 - (r : Int))) := by
     obtain ⟨s, rfl⟩ : ∃ s, r = s + 1 := ⟨r - 1, by omega⟩
     exact tg_splice hs48.out (by rw [hNl.out, length_tblOf hNl.out]; omega) (tblOf_step hNl.out (by omega))
    have hlen : Hid ((treeG ss k 0 1 (tblOf N r) (63 - (r : Int))).length = 2101) := tg_len hs48.out (length_tblOf hNl.out _)
    have hrl := Hh (hNl.out r)
    have hend : Hid (∀ w', Own w w' [(b, treeG ss k 0 1 (tblOf N (r - 1)) (63 - (r : Int) + 1), 74), (c, [.pointer (some ⟨b, 0, none⟩)], 30)] → Own w w' [(b, treeG ss k 0 1 (tblOf N (r - 1)) (63 - ((r - 1 : Nat) : Int)), 74), (c, [.pointer (some ⟨b, 0, none⟩)], 30)]) := fun w' h => by
     rw [show 63 - ((r - 1 : Nat) : Int) = 63 - (r : Int) + 1 by omega]; exact h
    by_cases h32 : 32 ≤ r
    · have hpub1 := Hh (fun w' => hpub.out w' r h32 (by omega))
      have hpl := Hh (hPl.out (r - 32))
      have hpb := Hh (hPb.out (r - 32))
      have hN1r := Hh (hN1.out r h32)
      obtain ⟨X, hX⟩ : ∃ x, x = Pb (r - 32) := ⟨_, rfl⟩
      rw [← hX] at hpub1 hpl hpb hN1r
      have hlf1 : Hid (∀ w' v, LitL [X] w' v → Calls Tryz.prog 52 #[.agg (u8s id).toArray, .int .i64 r, .int .i64 33410, v] w' fun e w'' => e = .returned (.agg (u8s (N r)).toArray) ∧ Own w' w'' []) := fun w' v h => by rw [← hN1r.out]; exact hlf.out w' r v X (by omega) h hpl.out
      clear H hX hN1r
      go_wp2_with fail
      refine region_effF 16 (by kernel_rfl) (by kernel_rfl) (by kernel_rfl) [.val (.pointer (some ⟨b, 0, none⟩)), .val (.pointer (some ⟨b, 0, none⟩)), .val (.pointer (some ⟨b, 0, none⟩)), .val (.agg (u8s ss).toArray), .val (.int .i64 r), .val (.int .i64 ((r : Int) - 32)), .val (.pointer (some ⟨b, 0, none⟩)), .val (.pointer (some ⟨b, 0, none⟩)), .val (.pointer (some ⟨b, 48, none⟩)), .val (.int .i64 k), .val (.tuple #[.agg (u8s X).toArray, .int .i64 0]), .val (.tuple #[.agg (u8s X).toArray, .int .i64 0]), .val (.agg (u8s X).toArray), .val (.int .i64 0), .rel (CellN wr.heap.size 32 24), .eff (SeT 32 24) (fun _ _ => True)] rfl ?_ (by kernel_rfl) (StS wr 2 (u8s X) 24) (Own.refl wr) StS.m [2] 15 (fun s a' w' d v h1 h2 => StS.p s a' w' d v h1 h2) (by kernel_rfl) ?_
      · simp only [eAll, eRow, Se.pres, or_true, true_and, and_true, implies_true]
        exact Or.inr (Or.inr CellN.presS)
      have z3 := tt
      try go_frame
      repeat (first
       | (clear z3; refine sf_run (v := .pointer (some ⟨b, 0, none⟩)) rfl (fun w' hw' _ => by obtain ⟨s, a', hs⟩ := hw'; exact rn_cell rfl rfl rfl rfl (c_c.out w' (StS.own s hs))) ?_; try go_frame; have z4 := tt)
       | (clear z4; refine sf_run (v := .agg (u8s ss).toArray) rfl (fun w' hw' _ => by obtain ⟨s, a', hs⟩ := hw'; exact rn_cells rfl rfl rfl rfl hsz48.out (c_s.out w' (StS.own s hs))) ?_; try go_frame; have z5 := tt)
       | (clear z5; refine sf_run (v := .pointer (some ⟨b, 0, none⟩)) rfl (fun w' hw' _ => by obtain ⟨s, a', hs⟩ := hw'; exact rn_cell rfl rfl rfl rfl (c_c.out w' (StS.own s hs))) ?_; try go_frame; have z6 := tt)
       | (clear z6; refine sf_run (v := .int .i64 k) rfl (fun w' hw' _ => by obtain ⟨s, a', hs⟩ := hw'; exact rn_cell rfl rfl rfl rfl (c_k.out w' (StS.own s hs))) ?_; try go_frame; have z7 := tt)
       | (clear z7; refine sf_callN (v := .tuple #[.agg (u8s X).toArray, .int .i64 0]) (args := #[.agg (u8s ss).toArray, .int .i64 ((r : Int) - 32), .int .i64 k]) rfl rfl (by simp [Act.eval]) Tryz.func69 (by kernel_rfl) (by kernel_rfl) (fun w' _ _ => hpub1.out w') ?_; try go_frame; have z8 := tt)
       | (clear z8; refine sf_rel CellN.mono rfl (fun w' hw' _ => by obtain ⟨s, a', hs⟩ := hw'; exact cellN_alloc rfl info_hash rfl (StS.own s hs).size) ?_; intro v2; try go_frame)
       | (refine sf_val (fun w' hw' hF => ?_) ⟨_, rfl, nB rfl⟩ ?_
          · go_big_quiet_step (fail)
            exact rfl
          try go_frame))
      refine sf_store rfl rfl (fun a' w' hag hS hF => ?_) ?_
      · obtain ⟨g, cs, e2, q1, q2, q3⟩ := hF.2 _ rfl (mE (by kernel_rfl))
        subst e2
        exact (rn_storeAll (vs := u8s X) (Own.one q3) rfl rfl rfl (size_hashL hpl.out) .head (by rw [length_ints, q2]; exact hpl.out) (oneCell_ints _ _)).imp fun w2 h => ⟨h.1, ⟨g, cs, _, q3, h.2, by rw [length_ints]; exact hpl.out⟩, (Own.young hS h.2 q1 (by simp)), g, hag 2 (mE (by kernel_rfl)), q1, h.2.here _ _ _ (.head _)⟩
      refine sf_nil ?_
      intro w6 hS hF
      obtain ⟨hw', g, e2, hg, hgc⟩ := hS
      have e2' : v2 = .pointer (some ⟨g, 0, none⟩) := e2
      subst e2'
      have H := (HW.out.call0 hw').adopt hgc (fun hm => by
       simp only [List.map_cons, List.map_nil, List.mem_cons, List.not_mem_nil, or_false] at hm
       rcases hm with rfl | rfl
       · have := HW.out.lt (.head _); omega
       · have := HW.out.lt (.tail _ (.head _)); omega)
      have hgw := Nat.le_trans HW.out.size hg
      clear hw' hF hgc hpub1 e2
      simp only [List.drop_succ_cons, List.drop_zero]
      go_wp2_with fail
      have H6 := Hh H
      have d_c : Hid (∀ w', Own w6 w' [] → w'.cell? ⟨c, 0, none⟩ = some (.pointer (some ⟨b, 0, none⟩))) := fun w' h => (H6.out.call0 h).cell (.tail _ (.tail _ (.head _))) 0
      have d_i : Hid (∀ w', Own w6 w' [] → ∀ j v, (u8s id)[j]? = some v → w'.cell? ⟨b, 0 + j, none⟩ = some v) := fun w' h j v hj => by rw [(H6.out.call0 h).cell (.tail _ (.head _)), Nat.zero_add]; exact tg_s (hid16.out j v hj)
      clear H
      refine region_grow 14 (by kernel_rfl) (by kernel_rfl) (by kernel_rfl) [.val (.pointer (some ⟨b, 0, none⟩)), .val (.int .i64 r), .val (.pointer (some ⟨b, 0, none⟩)), .val (.pointer (some ⟨b, 0, none⟩)), .val (.pointer (some ⟨b, 0, none⟩)), .val (.pointer (some ⟨b, 0, none⟩)), .val (.agg (u8s id).toArray), .val (.int .i64 r), .val (.slice (some ⟨g, 0, none⟩) 32 32), .rel (LitL [X]), .val (.agg (u8s (N r)).toArray), .val (.pointer (some ⟨b, 0, none⟩)), .val (.pointer (some ⟨b, 52, none⟩)), .val (.pointer (some ⟨b, 52 + 32 * r, none⟩))] rfl ?_
      have z3 := tt
      try go_frame
      repeat (first
       | (clear z3; refine sp_run (v := .pointer (some ⟨b, 0, none⟩)) rfl (fun w' hw' _ => rn_cell rfl rfl rfl rfl (d_c.out w' hw')) ?_; try go_frame; have z4 := tt)
       | (clear z4; refine sp_run (v := .pointer (some ⟨b, 0, none⟩)) rfl (fun w' hw' _ => rn_cell rfl rfl rfl rfl (d_c.out w' hw')) ?_; try go_frame; have z5 := tt)
       | (clear z5; refine sp_run (v := .agg (u8s id).toArray) rfl (fun w' hw' _ => rn_cells rfl rfl rfl rfl hsz.out (d_i.out w' hw')) ?_; try go_frame; have z6 := tt)
       | (clear z6; refine sp_run (v := .slice (some ⟨g, 0, none⟩) 32 32) rfl (fun w' hw' _ => rn_sliceAll rfl rfl size_u8 rfl (by omega)) ?_; try go_frame; have z7 := tt)
       | (clear z7; refine sp_rel (LitL.mono _) rfl (fun w' hw' hF => ?_) ?_
          · refine litL_build (e := 27) (l := [(.slice (some ⟨g, 0, none⟩) 32 32, X)]) rfl rfl rfl (fun x hx => ?_) (fun w' => by kernel_rfl)
            simp only [List.mem_cons, List.not_mem_nil, or_false] at hx
            subst hx
            exact ⟨(H6.out.call0 hw').binAt (.head _) (fun j v hj => by rw [Nat.zero_add]; exact hj) hpl.out.symm (by omega), hpb.out⟩
          intro v33; try go_frame; have z8 := tt)
       | (clear z8; refine sp_callN (v := .agg (u8s (N r)).toArray) (args := #[.agg (u8s id).toArray, .int .i64 r, .int .i64 33410, v33]) rfl rfl (by simp [Act.eval]) Tryz.func52 (by kernel_rfl) (by kernel_rfl) (fun w' _ hF => hlf1.out w' _ (hF.2 _ rfl (mE (by kernel_rfl)))) ?_; try go_frame; have z9 := tt)
       | (clear z9; refine sp_run (v := .pointer (some ⟨b, 52 + 32 * r, none⟩)) rfl (fun w' _ _ => rn_idxArrN rfl rfl size_hash rfl rfl rfl (by omega) rfl) ?_; try go_frame)
       | (refine sp_val (fun w' hw' hF => ?_) ⟨_, rfl, nB rfl⟩ ?_
          · go_big_quiet_step (fail)
            exact rfl
          try go_frame))
      refine sp_nil ?_
      intro w7 hw' hF
      have H := (H6.out.call0 hw').drop (L1 := [_]) (by simp; omega)
      clear hw' hF hlf1 d_c d_i H6
      simp only [List.drop_succ_cons, List.drop_zero]
      have z3 := tt
      go_wp2_with (first
       | (clear z3; refine st_skip rfl (rn_storeRow (vs := u8s (N r)) H rfl rfl rfl (size_hashL hrl.out) (by rw [hspl.out]; exact .head) (by rw [hlen.out, length_ints, hrl.out]; omega) (oneCell_ints _ _)) ?_; clear H; intro w8 H; have z4 := tt)
       | (clear z4; refine st_val rfl (rn_cell rfl rfl rfl rfl (H.cell (.tail _ (.head _)) 0)) ?_; have z5 := tt)
       | (clear z5; go_at_call 70; refine (hadd.out _ H).mono ?_; rintro e w9 ⟨rfl, H2⟩; clear H; have H := hend.out _ H2; clear H2))
      exact ⟨⟨r - 1, by omega, by go_num, H⟩, by simp [intOf]; omega⟩
    · have hN2r := Hh (hN2.out r hr0 (by omega))
      have hin1 : Hid (∀ w' v, LitL [N (2 * r), N (2 * r + 1)] w' v → Calls Tryz.prog 52 #[.agg (u8s id).toArray, .int .i64 r, .int .i64 33667, v] w' fun e w'' => e = .returned (.agg (u8s (N r)).toArray) ∧ Own w' w'' []) := fun w' v h => by rw [← hN2r.out]; exact hin.out w' r v _ _ (by omega) h (hNl.out _) (hNl.out _)
      have hl1 := Hh (hNl.out (2 * r))
      have hl2 := Hh (hNl.out (2 * r + 1))
      have hb1 := Hh (hNb.out (2 * r))
      have hb2 := Hh (hNb.out (2 * r + 1))
      have d1 : Hid (∀ w', Own wr w' [] → BIn (N (2 * r)) w' (.slice (some ⟨b, 52 + 32 * (2 * r), none⟩) 32 32)) := fun w' h => (HW.out.call0 h).binAt (.head _) (fun j v hj => by rw [Nat.add_assoc]; exact tg_n hs48.out (tbl_at hNl.out (by omega) (by omega) hj)) hl1.out.symm (by omega)
      have d2 : Hid (∀ w', Own wr w' [] → BIn (N (2 * r + 1)) w' (.slice (some ⟨b, 52 + 32 * (2 * r + 1), none⟩) 32 32)) := fun w' h => (HW.out.call0 h).binAt (.head _) (fun j v hj => by rw [Nat.add_assoc]; exact tg_n hs48.out (tbl_at hNl.out (by omega) (by omega) hj)) hl2.out.symm (by omega)
      obtain ⟨N1, hN1'⟩ : ∃ x, x = N (2 * r) := ⟨_, rfl⟩
      obtain ⟨N2, hN2'⟩ : ∃ x, x = N (2 * r + 1) := ⟨_, rfl⟩
      rw [← hN1'] at hin1 hb1 d1
      rw [← hN2'] at hin1 hb2 d2
      clear H hN2r hN1' hN2' hl1 hl2
      go_wp2_with fail
      refine region_grow 28 (by kernel_rfl) (by kernel_rfl) (by kernel_rfl) [.val (.pointer (some ⟨b, 0, none⟩)), .val (.int .i64 r), .val (.pointer (some ⟨b, 0, none⟩)), .val (.pointer (some ⟨b, 0, none⟩)), .val (.pointer (some ⟨b, 0, none⟩)), .val (.pointer (some ⟨b, 0, none⟩)), .val (.agg (u8s id).toArray), .val (.int .i64 r),
       .val (.pointer (some ⟨b, 0, none⟩)), .val (.int .i64 r), .val (.int .i64 (2 * (r : Int))), .val (.pointer (some ⟨b, 0, none⟩)), .val (.pointer (some ⟨b, 52, none⟩)), .val (.pointer (some ⟨b, 52 + 32 * (2 * r), none⟩)), .val (.slice (some ⟨b, 52 + 32 * (2 * r), none⟩) 32 32),
       .val (.pointer (some ⟨b, 0, none⟩)), .val (.int .i64 r), .val (.int .i64 (2 * (r : Int))), .val (.int .i64 (2 * (r : Int) + 1)), .val (.pointer (some ⟨b, 0, none⟩)), .val (.pointer (some ⟨b, 52, none⟩)), .val (.pointer (some ⟨b, 52 + 32 * (2 * r + 1), none⟩)), .val (.slice (some ⟨b, 52 + 32 * (2 * r + 1), none⟩) 32 32),
       .rel (LitL [N1, N2]), .val (.agg (u8s (N r)).toArray), .val (.pointer (some ⟨b, 0, none⟩)), .val (.pointer (some ⟨b, 52, none⟩)), .val (.pointer (some ⟨b, 52 + 32 * r, none⟩))] rfl ?_
      have z3 := tt
      try go_frame
      repeat (first
       | (clear z3; refine sp_run (v := .pointer (some ⟨b, 0, none⟩)) rfl (fun w' hw' _ => rn_cell rfl rfl rfl rfl (c_c.out w' hw')) ?_; try go_frame; have z4 := tt)
       | (clear z4; refine sp_run (v := .pointer (some ⟨b, 0, none⟩)) rfl (fun w' hw' _ => rn_cell rfl rfl rfl rfl (c_c.out w' hw')) ?_; try go_frame; have z5 := tt)
       | (clear z5; refine sp_run (v := .agg (u8s id).toArray) rfl (fun w' hw' _ => rn_cells rfl rfl rfl rfl hsz.out (c_i.out w' hw')) ?_; try go_frame; have z6 := tt)
       | (clear z6; refine sp_run (v := .pointer (some ⟨b, 0, none⟩)) rfl (fun w' hw' _ => rn_cell rfl rfl rfl rfl (c_c.out w' hw')) ?_; try go_frame; have z7 := tt)
       | (clear z7; refine sp_run (v := .pointer (some ⟨b, 52 + 32 * (2 * r), none⟩)) rfl (fun w' _ _ => rn_idxArrN (j := 2 * r) rfl rfl size_hash rfl rfl (by omega) (by omega) rfl) ?_; try go_frame; have z8 := tt)
       | (clear z8; refine sp_run (v := .slice (some ⟨b, 52 + 32 * (2 * r), none⟩) 32 32) rfl (fun w' hw' _ => rn_sliceAll rfl rfl size_u8 rfl (by omega)) ?_; try go_frame; have z9 := tt)
       | (clear z9; refine sp_run (v := .pointer (some ⟨b, 0, none⟩)) rfl (fun w' hw' _ => rn_cell rfl rfl rfl rfl (c_c.out w' hw')) ?_; try go_frame; have z10 := tt)
       | (clear z10; refine sp_run (v := .pointer (some ⟨b, 52 + 32 * (2 * r + 1), none⟩)) rfl (fun w' _ _ => rn_idxArrN (j := 2 * r + 1) rfl rfl size_hash rfl rfl (by omega) (by omega) rfl) ?_; try go_frame; have z11 := tt)
       | (clear z11; refine sp_run (v := .slice (some ⟨b, 52 + 32 * (2 * r + 1), none⟩) 32 32) rfl (fun w' hw' _ => rn_sliceAll rfl rfl size_u8 rfl (by omega)) ?_; try go_frame; have z12 := tt)
       | (clear z12; refine sp_rel (LitL.mono _) rfl (fun w' hw' hF => ?_) ?_
          · refine litL_build (e := 27) (l := [(.slice (some ⟨b, 52 + 32 * (2 * r), none⟩) 32 32, N1), (.slice (some ⟨b, 52 + 32 * (2 * r + 1), none⟩) 32 32, N2)]) rfl rfl rfl (fun x hx => ?_) (fun w' => by kernel_rfl)
            simp only [List.mem_cons, List.not_mem_nil, or_false] at hx
            rcases hx with rfl | rfl
            · exact ⟨d1.out w' hw', hb1.out⟩
            · exact ⟨d2.out w' hw', hb2.out⟩
          intro v61; try go_frame; have z13 := tt)
       | (clear z13; refine sp_callN (v := .agg (u8s (N r)).toArray) (args := #[.agg (u8s id).toArray, .int .i64 r, .int .i64 33667, v61]) rfl rfl (by simp [Act.eval]) Tryz.func52 (by kernel_rfl) (by kernel_rfl) (fun w' _ hF => hin1.out w' _ (hF.2 _ rfl (mE (by kernel_rfl)))) ?_; try go_frame; have z14 := tt)
       | (clear z14; refine sp_run (v := .pointer (some ⟨b, 52 + 32 * r, none⟩)) rfl (fun w' _ _ => rn_idxArrN rfl rfl size_hash rfl rfl rfl (by omega) rfl) ?_; try go_frame)
       | (refine sp_val (fun w' hw' hF => ?_) ⟨_, rfl, nB rfl⟩ ?_
          · go_big_quiet_step (fail)
            exact rfl
          try go_frame))
      refine sp_nil ?_
      intro w7 hw' hF
      have H := HW.out.call0 hw'
      clear hw' hF hin1 HW
      simp only [List.drop_succ_cons, List.drop_zero]
      have z3 := tt
      go_wp2_with (first
       | (clear z3; refine st_skip rfl (rn_storeRow (vs := u8s (N r)) H rfl rfl rfl (size_hashL hrl.out) (by rw [hspl.out]; exact .head) (by rw [hlen.out, length_ints, hrl.out]; omega) (oneCell_ints _ _)) ?_; clear H; intro w8 H; have z4 := tt)
       | (clear z4; refine st_val rfl (rn_cell rfl rfl rfl rfl (H.cell (.tail _ (.head _)) 0)) ?_; have z5 := tt)
       | (clear z5; go_at_call 70; refine (hadd.out _ H).mono ?_; rintro e w9 ⟨rfl, H2⟩; clear H; have H := hend.out _ H2; clear H2))
      exact ⟨⟨r - 1, by omega, by go_num, H⟩, by simp [intOf]; omega⟩
  · obtain rfl : r = 0 := by omega
    go_wp2_with fail
    go_end0
    exact ⟨rfl, H⟩
def fullT (id seed : List Int) (k : Nat) : List Value := treeG (id ++ seed) k 1 0 (tblOf (nodeOf id seed k) 0) 63
def IsTree (id seed : List Int) (k : Nat) (cs : List Value) : Prop := cs = treeG (id ++ seed) k 0 0 (List.replicate 2048 0) 0 ∨ cs = fullT id seed k
theorem Own.same {w w' : World} {b : Nat} {cs : List Value} {T : TypeId} (h : Own w w' [(b, cs, T)]) (hb : w.heap[b]? = some (.cells cs.toArray T (0, 0))) : Own w w' [] := by
 refine ⟨h.os, h.tape, h.output, h.size, fun k hk _ => ?_, List.nodup_nil, fun _ _ _ hm => by cases hm⟩
 by_cases e : k = b
 · subst e
   rw [hb]
   exact h.here _ _ _ (.head _)
 · exact h.keep k hk (by simpa using e)
set_option maxRecDepth 100000 in
theorem grow_any (w : World) (b : Nat) (id seed : List Int) (h16 : id.length = 16) (h32 : seed.length = 32) (k : Nat) (hk : k = 1 ∨ k = 2 ∨ k = 4 ∨ k = 8) (cs : List Value) (hcs : IsTree id seed k cs) (H0 : Own w w [(b, cs, 74)]) :
 Calls Tryz.prog 36 #[.pointer (some ⟨b, 0, none⟩)] w fun e w' => e = .returned (.tuple #[]) ∧ Own w w' [(b, fullT id seed k, 74)] := by
 have hmf : ∀ (fn : Fn) (first cap : Array Value) (w : World), (Instr.makeFunc fn first cap).run Tryz.prog w = .ok (.func fn first cap) w := fun _ _ _ _ => rfl
 have h48 : (id ++ seed).length = 48 := by rw [List.length_append]; omega
 rcases hcs with rfl | rfl
 · have hdo : Hid (∀ w1 c, Own w w1 [(c, [.pointer (some ⟨b, 0, none⟩)], 30), (b, treeG (id ++ seed) k 0 0 (List.replicate 2048 0) 0, 74)] → Calls Tryz.prog 67 #[.pointer (some ⟨b, 49, none⟩), .func (.func 68) #[] #[.pointer (some ⟨c, 0, none⟩)]] w1 fun e w2 => e = .returned (.tuple #[]) ∧ Own w w2 [(b, fullT id seed k, 74), (c, [.pointer (some ⟨b, 0, none⟩)], 30)]) := fun w1 c h => by
    refine once_first (off := 49) (A := u8s (id ++ seed) ++ [.int .i64 k]) (A' := u8s (id ++ seed) ++ [.int .i64 k]) (Z := .int .u32 0 :: (u8s (List.replicate 2048 0) ++ [.int .i64 0])) (Z' := .int .u32 0 :: (u8s (tblOf (nodeOf id seed k) 0) ++ [.int .i64 63])) (L := [(c, [.pointer (some ⟨b, 0, none⟩)], 30)]) (L' := [(c, [.pointer (some ⟨b, 0, none⟩)], 30)]) (by rw [List.length_append, length_ints, h48]; rfl) (by rw [List.length_append, length_ints, h48]; rfl) 68 _ #[.pointer (some ⟨c, 0, none⟩)] Tryz.func68 (by kernel_rfl) (by kernel_rfl) (h.perm (List.Perm.swap _ _ _)) (fun w2 h2 => ?_)
    refine (grow1_any w2 b c id seed h16 h32 k hk h2.self).mono ?_
    rintro e w3 ⟨h3, h4⟩
    exact ⟨h3, Own.next (L := [_, _]) (M := []) h2 h4 rfl⟩
   have H := H0
   clear H0 h48 h16 h32 hk
   go_enter Tryz.func36, Tryz.ntmps36
   have z1 := tt
   go_wp2_with (first
    | (clear z1; refine st_new rfl (rn_box (cs := [.pointer (some ⟨b, 0, none⟩)]) H rfl rfl rfl) ?_; clear H; intro c w1 hc H; have z2 := tt)
    | (clear z2; refine st_val rfl (rn_cell rfl rfl rfl rfl (H.cell (.head _) 0)) ?_; have z3 := tt)
    | (clear z3; go_at_call 67; refine (hdo.out _ _ H).mono ?_; rintro e w2 ⟨rfl, H2⟩; clear H))
   go_end0
   exact ⟨rfl, H2.dropR (L1 := [_]) (by simp; omega)⟩
 · have hd : Hid (∀ w1 L, Own w w1 (L ++ [(b, fullT id seed k, 74)]) → ∀ fv, Calls Tryz.prog 67 #[.pointer (some ⟨b, 49, none⟩), fv] w1 fun e w2 => e = .returned (.tuple #[]) ∧ w2 = w1) := fun w1 L h fv => once_done w1 b 49 fv ((h.cell (List.mem_append_right _ (.head _)) 49).trans (tg_d h48))
   have H := H0
   clear H0 h48 h16 h32 hk
   go_enter Tryz.func36, Tryz.ntmps36
   have z1 := tt
   go_wp2_with (first
    | (clear z1; refine st_new rfl (rn_box (cs := [.pointer (some ⟨b, 0, none⟩)]) H rfl rfl rfl) ?_; clear H; intro c w1 hc H; have z2 := tt)
    | (clear z2; refine st_val rfl (rn_cell rfl rfl rfl rfl (H.cell (.head _) 0)) ?_; have z3 := tt)
    | (clear z3; go_at_call 67; refine (hd.out _ [_] H _).mono ?_; rintro e w2 ⟨rfl, e2⟩; subst e2))
   go_end0
   exact ⟨rfl, H.drop (L1 := [_]) (by simp; omega)⟩
end Go.Proofs.YtfihlmnbonnekaaGreat
