/- the document's trees: leaf, inner, New, Public, Sign. -/
import Derived.Test.YtfihlmnbonnekaaGreatLLaw
namespace Go.Proofs.YtfihlmnbonnekaaGreat
open Go.RowKit

set_option maxRecDepth 100000 in
set_option maxHeartbeats 8000000 in
theorem rleaf_any (w : World) (id x : List Int) (h16 : id.length = 16) (hid : IsBytes id) (hx : x.length = 32) (tx : IsBytes x) (q : Nat) (hq : q < 64) :
    Calls Tryz.prog 33 #[.agg (u8s id).toArray, .int .i64 q, .agg (u8s x).toArray] w fun e w' => e = .returned (.agg (u8s (leafOf id q x)).toArray) ∧ Own w w' [] := by
  have H := Own.refl w
  have hfr : Hid (∀ w', Calls Tryz.prog 63 #[.agg (u8s id).toArray, .int .i64 q] w' fun e w'' => ∃ r, e = .returned r ∧ BIn (frontq id q) w'' r ∧ Own w' w'' []) := fun w' => (front_any w' id h16 q hq).mono fun e w'' ⟨r, h1, h2⟩ => ⟨r, h1, h2.bin, h2.own0⟩
  have hfb := Lib.hid (isBytes_frontq hid q)
  have hd : leafOf id q x = sha (frontq id q ++ ([130, 130] ++ (x))) := rfl
  rw [hd]
  obtain ⟨F, hF⟩ : ∃ F, F = frontq id q := ⟨_, rfl⟩
  rw [← hF] at hfr hfb ⊢
  have hFl : Hid (F.length = 20) := by show _ = _; rw [hF]; exact length_frontq h16 q
  have hsz := Lib.hid (size_idL h16)
  obtain ⟨Z, hZ⟩ : ∃ Z, Z = F ++ ([130, 130] ++ (x)) := ⟨_, rfl⟩
  have hZ2 : Z = [F, [130, 130], x].flatten := by rw [hZ]; simp
  have hZl : Hid (Z.length ≤ 1000) := by show _ ≤ _; rw [hZ]; have := hFl.out; simp; omega
  rw [← hZ]
  have hcat : Hid (∀ w' v, LitL [F, [130, 130], x] w' v → Calls Tryz.prog 41 #[v] w' fun e w'' => ∃ r, e = .returned r ∧ BIn Z w'' r ∧ Own w' w'' []) := fun w' v h => by
    have h3 := catL_any w' v _ h (by rw [← hZ2]; exact Nat.le_trans hZl.out (by decide)) (by simp)
    rwa [← hZ2] at h3
  have hsum : Hid (∀ w' v, BIn Z w' v → Calls Tryz.prog 62 #[v] w' fun e w'' => e = .returned (.agg (u8s (sha Z)).toArray) ∧ Own w' w'' []) := fun w' v h => refSum_any w' v Z h.2.1 h.2.2 (Nat.le_trans hZl.out (by decide))
  have hx' := Lib.hid hx
  have tx' := Lib.hid tx
  clear hZ hZ2 hF hid h16 hd hx tx
  go_enter Tryz.func33, Tryz.ntmps33
  have tok1 : True := trivial
  go_wp2_with (first
    | (clear tok1; refine st_new rfl (rn_box (cs := u8s id) H rfl rfl rfl) ?_; clear H; intro b3 w1 hb3 H; have tok2 : True := trivial)
    | (clear tok2; refine st_new rfl (rn_box (cs := u8s x) H rfl rfl rfl) ?_; clear H; intro b5 w2 hb5 H; have tok3 : True := trivial)
    | (clear tok3; refine st_new rfl (rn_alloc H rfl info_hash) ?_; clear H; intro b6 w5 hb6 H; have tok4 : True := trivial))
  have hc : Hid (∀ w', Own w5 w' [] → ∀ j v, (u8s id)[j]? = some v → w'.cell? ⟨b3, 0 + j, none⟩ = some v) := fun w' h j v hj => by rw [(H.call0 h).cell (.tail _ (.tail _ (.head _))), Nat.zero_add]; exact hj
  have cx : Hid (∀ w', Own w5 w' [] → BIn x w' (.slice (some ⟨b5, 0, none⟩) 32 32)) := fun w' h => (H.call0 h).binAt (.tail _ (.head _)) (fun j v hj => by rw [Nat.zero_add]; exact hj) hx'.out.symm (by omega)
  have H2' := Lib.hid H
  clear H
  refine region_grow 8 (by kernel_rfl) (by kernel_rfl) (by kernel_rfl) [.val (.agg (u8s id).toArray), .val (.int .i64 q), .rel (BIn F), .rel (BIn [130, 130]), .val (.slice (some ⟨b5, 0, none⟩) 32 32), .rel (LitL [F, [130, 130], x]), .rel (BIn Z), .val (.agg (u8s (sha Z)).toArray)] rfl ?_
  have tok3 : True := trivial
  try go_frame
  repeat (first
    | (clear tok3; refine sp_run (v := .agg (u8s id).toArray) rfl (fun w' hw' _ => rn_cells rfl rfl rfl rfl hsz.out (hc.out w' hw')) ?_; try go_frame; have tok4 : True := trivial)
    | (clear tok4; refine sp_callR (args := #[.agg (u8s id).toArray, .int .i64 q]) (BIn.mono _) rfl rfl (by simp [Act.eval]) Tryz.func63 (by kernel_rfl) (by kernel_rfl) (fun w' hw' hF => hfr.out w') ?_; intro v10; try go_frame; have tok5 : True := trivial)
    | (clear tok5; refine sp_rel (BIn.mono _) rfl (fun w' hw' hF => bin_lit (e := 5) rfl rfl (fun w' => by kernel_rfl)) ?_; intro v11; try go_frame; have tok6 : True := trivial)
    | (clear tok6; refine sp_run (v := .slice (some ⟨b5, 0, none⟩) 32 32) rfl (fun w' hw' _ => rn_sliceAll rfl rfl size_u8 rfl (by omega)) ?_; try go_frame; have tok7 : True := trivial)
    | (clear tok7; refine sp_rel (LitL.mono _) rfl (fun w' hw' hF => ?_) ?_
       · have r0 := hF.1.2 _ rfl (List.mem_of_elem_eq_true (by kernel_rfl))
         have s0 := r0.1
         obtain ⟨p0, c0, e0⟩ := s0
         subst e0
         have r1 := hF.2 _ rfl (List.mem_of_elem_eq_true (by kernel_rfl))
         have s1 := r1.1
         obtain ⟨p1, c1, e1⟩ := s1
         subst e1
         clear hF
         refine litL_build (e := 27) (l := [(.slice p0 F.length c0, F), (.slice p1 [130, 130].length c1, [130, 130]), (.slice (some ⟨b5, 0, none⟩) 32 32, x)]) rfl rfl rfl (fun x hx => ?_) (fun w' => by kernel_rfl)
         simp only [List.mem_cons, List.not_mem_nil, or_false] at hx
         rcases hx with rfl | rfl | rfl
         · exact ⟨r0, hfb.out⟩
         · exact ⟨r1, isBytes_cons (by omega) (by omega) (isBytes_cons (by omega) (by omega) isBytes_nil)⟩
         · exact ⟨cx.out w' hw', tx'.out⟩
       intro v15; try go_frame; have tok8 : True := trivial)
    | (clear tok8; refine sp_callR (args := #[v15]) (BIn.mono _) rfl rfl (by simp [Act.eval]) Tryz.func41 (by kernel_rfl) (by kernel_rfl) (fun w' hw' hF => hcat.out w' v15 (hF.2 _ rfl (List.mem_of_elem_eq_true (by kernel_rfl)))) ?_; intro v16; try go_frame; have tok9 : True := trivial)
    | (clear tok9; refine sp_callN (v := .agg (u8s (sha Z)).toArray) (args := #[v16]) rfl rfl (by simp [Act.eval]) Tryz.func62 (by kernel_rfl) (by kernel_rfl) (fun w' hw' hF => hsum.out w' v16 (hF.2 _ rfl (List.mem_of_elem_eq_true (by kernel_rfl)))) ?_; try go_frame; have tok10 : True := trivial)
    | (refine sp_val (fun w' hw' hF => ?_) ⟨_, rfl, Nat.le_of_ble_eq_true rfl⟩ ?_
       · go_big_quiet_step (fail)
         exact rfl
       try go_frame))
  refine sp_nil ?_
  intro w6 hw' hF
  have H := H2'.out.call0 hw'
  clear hw' hF H2' hc
  simp only [List.drop_succ_cons, List.drop_zero]
  go_wp2_with (refine st_skip rfl (rn_storeAll (vs := u8s (sha Z)) H rfl rfl rfl (by kernel_rfl) .head (by kernel_rfl) (oneCell_ints _ _)) ?_; clear H; intro w8 H)
  refine fin_cell rfl H rfl (.head _) rfl rfl (by kernel_rfl) rfl ⟨rfl, ?_⟩
  exact H.end0 (by simp; omega)

set_option maxRecDepth 100000 in
set_option maxHeartbeats 8000000 in
theorem rinner_any (w : World) (id x y : List Int) (h16 : id.length = 16) (hid : IsBytes id) (hx : x.length = 32) (tx : IsBytes x) (hy : y.length = 32) (ty : IsBytes y) (q : Nat) (hq : q < 64) :
    Calls Tryz.prog 35 #[.agg (u8s id).toArray, .int .i64 q, .agg (u8s x).toArray, .agg (u8s y).toArray] w fun e w' => e = .returned (.agg (u8s (innerOf id q x y)).toArray) ∧ Own w w' [] := by
  have H := Own.refl w
  have hfr : Hid (∀ w', Calls Tryz.prog 63 #[.agg (u8s id).toArray, .int .i64 q] w' fun e w'' => ∃ r, e = .returned r ∧ BIn (frontq id q) w'' r ∧ Own w' w'' []) := fun w' => (front_any w' id h16 q hq).mono fun e w'' ⟨r, h1, h2⟩ => ⟨r, h1, h2.bin, h2.own0⟩
  have hfb := Lib.hid (isBytes_frontq hid q)
  have hd : innerOf id q x y = sha (frontq id q ++ ([131, 131] ++ (x ++ y))) := rfl
  rw [hd]
  obtain ⟨F, hF⟩ : ∃ F, F = frontq id q := ⟨_, rfl⟩
  rw [← hF] at hfr hfb ⊢
  have hFl : Hid (F.length = 20) := by show _ = _; rw [hF]; exact length_frontq h16 q
  have hsz := Lib.hid (size_idL h16)
  obtain ⟨Z, hZ⟩ : ∃ Z, Z = F ++ ([131, 131] ++ (x ++ y)) := ⟨_, rfl⟩
  have hZ2 : Z = [F, [131, 131], x, y].flatten := by rw [hZ]; simp
  have hZl : Hid (Z.length ≤ 1000) := by show _ ≤ _; rw [hZ]; have := hFl.out; simp; omega
  rw [← hZ]
  have hcat : Hid (∀ w' v, LitL [F, [131, 131], x, y] w' v → Calls Tryz.prog 41 #[v] w' fun e w'' => ∃ r, e = .returned r ∧ BIn Z w'' r ∧ Own w' w'' []) := fun w' v h => by
    have h3 := catL_any w' v _ h (by rw [← hZ2]; exact Nat.le_trans hZl.out (by decide)) (by simp)
    rwa [← hZ2] at h3
  have hsum : Hid (∀ w' v, BIn Z w' v → Calls Tryz.prog 62 #[v] w' fun e w'' => e = .returned (.agg (u8s (sha Z)).toArray) ∧ Own w' w'' []) := fun w' v h => refSum_any w' v Z h.2.1 h.2.2 (Nat.le_trans hZl.out (by decide))
  have hx' := Lib.hid hx
  have tx' := Lib.hid tx
  have hy' := Lib.hid hy
  have ty' := Lib.hid ty
  clear hZ hZ2 hF hid h16 hd hx tx hy ty
  go_enter Tryz.func35, Tryz.ntmps35
  have tok1 : True := trivial
  go_wp2_with (first
    | (clear tok1; refine st_new rfl (rn_box (cs := u8s id) H rfl rfl rfl) ?_; clear H; intro b4 w1 hb4 H; have tok2 : True := trivial)
    | (clear tok2; refine st_new rfl (rn_box (cs := u8s x) H rfl rfl rfl) ?_; clear H; intro b6 w2 hb6 H; have tok3 : True := trivial)
    | (clear tok3; refine st_new rfl (rn_box (cs := u8s y) H rfl rfl rfl) ?_; clear H; intro b7 w3 hb7 H; have tok4 : True := trivial)
    | (clear tok4; refine st_new rfl (rn_alloc H rfl info_hash) ?_; clear H; intro b8 w5 hb8 H; have tok5 : True := trivial))
  have hc : Hid (∀ w', Own w5 w' [] → ∀ j v, (u8s id)[j]? = some v → w'.cell? ⟨b4, 0 + j, none⟩ = some v) := fun w' h j v hj => by rw [(H.call0 h).cell (.tail _ (.tail _ (.tail _ (.head _)))), Nat.zero_add]; exact hj
  have cx : Hid (∀ w', Own w5 w' [] → BIn x w' (.slice (some ⟨b6, 0, none⟩) 32 32)) := fun w' h => (H.call0 h).binAt (.tail _ (.tail _ (.head _))) (fun j v hj => by rw [Nat.zero_add]; exact hj) hx'.out.symm (by omega)
  have cy : Hid (∀ w', Own w5 w' [] → BIn y w' (.slice (some ⟨b7, 0, none⟩) 32 32)) := fun w' h => (H.call0 h).binAt (.tail _ (.head _)) (fun j v hj => by rw [Nat.zero_add]; exact hj) hy'.out.symm (by omega)
  have H2' := Lib.hid H
  clear H
  refine region_grow 9 (by kernel_rfl) (by kernel_rfl) (by kernel_rfl) [.val (.agg (u8s id).toArray), .val (.int .i64 q), .rel (BIn F), .rel (BIn [131, 131]), .val (.slice (some ⟨b6, 0, none⟩) 32 32), .val (.slice (some ⟨b7, 0, none⟩) 32 32), .rel (LitL [F, [131, 131], x, y]), .rel (BIn Z), .val (.agg (u8s (sha Z)).toArray)] rfl ?_
  have tok3 : True := trivial
  try go_frame
  repeat (first
    | (clear tok3; refine sp_run (v := .agg (u8s id).toArray) rfl (fun w' hw' _ => rn_cells rfl rfl rfl rfl hsz.out (hc.out w' hw')) ?_; try go_frame; have tok4 : True := trivial)
    | (clear tok4; refine sp_callR (args := #[.agg (u8s id).toArray, .int .i64 q]) (BIn.mono _) rfl rfl (by simp [Act.eval]) Tryz.func63 (by kernel_rfl) (by kernel_rfl) (fun w' hw' hF => hfr.out w') ?_; intro v10; try go_frame; have tok5 : True := trivial)
    | (clear tok5; refine sp_rel (BIn.mono _) rfl (fun w' hw' hF => bin_lit (e := 5) rfl rfl (fun w' => by kernel_rfl)) ?_; intro v11; try go_frame; have tok6 : True := trivial)
    | (clear tok6; refine sp_run (v := .slice (some ⟨b6, 0, none⟩) 32 32) rfl (fun w' hw' _ => rn_sliceAll rfl rfl size_u8 rfl (by omega)) ?_; try go_frame; have tok7 : True := trivial)
    | (clear tok7; refine sp_run (v := .slice (some ⟨b7, 0, none⟩) 32 32) rfl (fun w' hw' _ => rn_sliceAll rfl rfl size_u8 rfl (by omega)) ?_; try go_frame; have tok8 : True := trivial)
    | (clear tok8; refine sp_rel (LitL.mono _) rfl (fun w' hw' hF => ?_) ?_
       · have r0 := hF.1.2 _ rfl (List.mem_of_elem_eq_true (by kernel_rfl))
         have s0 := r0.1
         obtain ⟨p0, c0, e0⟩ := s0
         subst e0
         have r1 := hF.2 _ rfl (List.mem_of_elem_eq_true (by kernel_rfl))
         have s1 := r1.1
         obtain ⟨p1, c1, e1⟩ := s1
         subst e1
         clear hF
         refine litL_build (e := 27) (l := [(.slice p0 F.length c0, F), (.slice p1 [131, 131].length c1, [131, 131]), (.slice (some ⟨b6, 0, none⟩) 32 32, x), (.slice (some ⟨b7, 0, none⟩) 32 32, y)]) rfl rfl rfl (fun x hx => ?_) (fun w' => by kernel_rfl)
         simp only [List.mem_cons, List.not_mem_nil, or_false] at hx
         rcases hx with rfl | rfl | rfl | rfl
         · exact ⟨r0, hfb.out⟩
         · exact ⟨r1, isBytes_cons (by omega) (by omega) (isBytes_cons (by omega) (by omega) isBytes_nil)⟩
         · exact ⟨cx.out w' hw', tx'.out⟩
         · exact ⟨cy.out w' hw', ty'.out⟩
       intro v15; try go_frame; have tok9 : True := trivial)
    | (clear tok9; refine sp_callR (args := #[v15]) (BIn.mono _) rfl rfl (by simp [Act.eval]) Tryz.func41 (by kernel_rfl) (by kernel_rfl) (fun w' hw' hF => hcat.out w' v15 (hF.2 _ rfl (List.mem_of_elem_eq_true (by kernel_rfl)))) ?_; intro v16; try go_frame; have tok10 : True := trivial)
    | (clear tok10; refine sp_callN (v := .agg (u8s (sha Z)).toArray) (args := #[v16]) rfl rfl (by simp [Act.eval]) Tryz.func62 (by kernel_rfl) (by kernel_rfl) (fun w' hw' hF => hsum.out w' v16 (hF.2 _ rfl (List.mem_of_elem_eq_true (by kernel_rfl)))) ?_; try go_frame; have tok11 : True := trivial)
    | (refine sp_val (fun w' hw' hF => ?_) ⟨_, rfl, Nat.le_of_ble_eq_true rfl⟩ ?_
       · go_big_quiet_step (fail)
         exact rfl
       try go_frame))
  refine sp_nil ?_
  intro w6 hw' hF
  have H := H2'.out.call0 hw'
  clear hw' hF H2' hc
  simp only [List.drop_succ_cons, List.drop_zero]
  go_wp2_with (refine st_skip rfl (rn_storeAll (vs := u8s (sha Z)) H rfl rfl rfl (by kernel_rfl) .head (by kernel_rfl) (oneCell_ints _ _)) ?_; clear H; intro w8 H)
  refine fin_cell rfl H rfl (.head _) rfl rfl (by kernel_rfl) rfl ⟨rfl, ?_⟩
  exact H.end0 (by simp; omega)

/-- the cells of the document's tree -/
def rtC (ss : List Int) (k : Nat) (ns : List Int) : List Value := (u8s ss ++ [.int .i64 k]) ++ u8s ns
section
variable {ss ns : List Int} {k : Nat}
theorem rt_s {j : Nat} {v : Value} (hj : (u8s ss)[j]? = some v) : (rtC ss k ns)[j]? = some v := by
  have h1 : j < (u8s ss).length := (List.getElem?_eq_some_iff.1 hj).1
  unfold rtC
  rw [List.append_assoc, List.getElem?_append_left h1]
  exact hj
theorem rt_k (h : ss.length = 48) : (rtC ss k ns)[48]? = some (.int .i64 k) := by
  unfold rtC
  rw [List.append_assoc, List.getElem?_append_right (by simp [h])]
  simp [h]
theorem rt_n (h : ss.length = 48) {j : Nat} {v : Value} (hj : (u8s ns)[j]? = some v) : (rtC ss k ns)[49 + j]? = some v := by
  unfold rtC
  rw [List.getElem?_append_right (by simp [h]), show 49 + j - (u8s ss ++ [Value.int .i64 k]).length = j by simp [h]]
  exact hj
end
/-- the document's tree stands there -/
def RTreeAt (w : World) (b : Nat) (id seed : List Int) (k : Nat) : Prop := w.heap[b]? = some (.cells (rtC (id ++ seed) k (tblOf (nodeOf id seed k) 0)).toArray 41 (0, 0))
section
variable {w w' : World} {b : Nat} {id seed : List Int} {k : Nat} {L : List Ent}
theorem RTreeAt.mv (h : RTreeAt w b id seed k) (ho : Own w w' L) (hn : ∀ k ∈ L.map (·.1), w.heap.size ≤ k) : RTreeAt w' b id seed k := by
  have hb : b < w.heap.size := (Array.getElem?_eq_some_iff.1 h).1
  unfold RTreeAt
  rw [ho.keep b hb (fun hm => by have := hn b hm; omega)]
  exact h
theorem RTreeAt.own (h : RTreeAt w b id seed k) : Own w w [(b, rtC (id ++ seed) k (tblOf (nodeOf id seed k) 0), 41)] := Own.one h
theorem RTreeAt.kc (h : RTreeAt w b id seed k) (h16 : id.length = 16) (h32 : seed.length = 32) : w.cell? ⟨b, 48, none⟩ = some (.int .i64 k) := (h.own.cell (.head _) 48).trans (rt_k (by rw [List.length_append]; omega))
theorem RTreeAt.sc (h : RTreeAt w b id seed k) : ∀ j v, (u8s (id ++ seed))[j]? = some v → w.cell? ⟨b, 0 + j, none⟩ = some v := fun j v hj => by rw [h.own.cell (.head _), Nat.zero_add]; exact rt_s hj
theorem RTreeAt.nc (h : RTreeAt w b id seed k) (h16 : id.length = 16) (h32 : seed.length = 32) {r : Nat} (h0 : 0 < r) (h64 : r < 64) : ∀ j v, (u8s (nodeOf id seed k r))[j]? = some v → w.cell? ⟨b, 49 + 32 * r + j, none⟩ = some v := fun j v hj => by
  rw [h.own.cell (.head _), Nat.add_assoc]
  exact rt_n (by rw [List.length_append]; omega) (tbl_at (length_nodeOf id seed k) h0 h64 hj)
theorem RTreeAt.node (h : RTreeAt w b id seed k) (h16 : id.length = 16) (h32 : seed.length = 32) {r : Nat} (h0 : 0 < r) (h64 : r < 64) : BIn (nodeOf id seed k r) w (.slice (some ⟨b, 49 + 32 * r, none⟩) 32 32) :=
  h.own.binAt (.head _) (fun j v hj => by rw [← h.own.cell (.head _)]; exact h.nc h16 h32 h0 h64 j v hj) (length_nodeOf id seed k r).symm (by omega)
end

end Go.Proofs.YtfihlmnbonnekaaGreat
