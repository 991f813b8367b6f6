/- the document's trees: leaf, inner, New, Public, Sign. -/
import Derived.Test.YtfihlmnbonnekaaGreatMf
namespace Go.Proofs.YtfihlmnbonnekaaGreat
open Go.RowKit
set_option maxHeartbeats 32000000
theorem catR_any (w w' : World) (v : Value) (ls : List (List Int)) (Z : List Int) (hZ : ls.flatten = Z) (h : LitL ls w' v) (hl : Z.length ≤ 1000000) (hn : ls.length ≤ 1000) (hw : w.heap.size ≤ w'.heap.size) :
 Calls Tryz.prog 41 #[v] w' fun e w'' => ∃ r, e = .returned r ∧ BufR w.heap.size Z w'' r ∧ Own w' w'' [] := by
 obtain ⟨l, h1, h2⟩ := h
 have hlen : l.length = ls.length := by rw [← h2, List.length_map]
 have h3 := catB_any w' v l h1 (by rw [LitL.flat h2, hZ]; omega) (by omega)
 rw [LitL.flat h2, hZ] at h3
 exact h3.mono fun _ _ ⟨r, g1, g2⟩ => ⟨r, g1, ⟨w', hw, g2⟩, g2.own0⟩
set_option maxRecDepth 100000 in
theorem rleaf_any (w : World) (id x : List Int) (h16 : id.length = 16) (hid : IsBytes id) (hx : x.length = 32) (tx : IsBytes x) (q : Nat) (hq : q < 64) :
 Calls Tryz.prog 33 #[.agg (u8s id).toArray, .int .i64 q, .agg (u8s x).toArray] w fun e w' => e = .returned (.agg (u8s (leafOf id q x)).toArray) ∧ Own w w' [] := by
 have H := Own.refl w
 have hfr : Hid (∀ w', Calls Tryz.prog 63 #[.agg (u8s id).toArray, .int .i64 q] w' fun e w'' => ∃ r, e = .returned r ∧ BIn (frontq id q) w'' r ∧ Own w' w'' []) := fun w' => (front_any w' id h16 q hq).mono fun e w'' ⟨r, h1, h2⟩ => ⟨r, h1, h2.bin, h2.own0⟩
 have hfb := Hh (isBytes_frontq hid q)
 have hd : leafOf id q x = sha (frontq id q ++ ([130, 130] ++ (x))) := rfl
 rw [hd]
 obtain ⟨F, hF⟩ : ∃ F, F = frontq id q := ⟨_, rfl⟩
 rw [← hF] at hfr hfb ⊢
 have hFl : Hid (F.length = 20) := by show _ = _; rw [hF]; exact length_frontq h16 q
 have hsz := Hh (size_idL h16)
 obtain ⟨Z, hZ⟩ : ∃ Z, Z = F ++ ([130, 130] ++ (x)) := ⟨_, rfl⟩
 have hZ2 : Z = [F, [130, 130], x].flatten := by rw [hZ]; simp
 have hZl : Hid (Z.length ≤ 1000) := by show _ ≤ _; rw [hZ]; have := hFl.out; simp; omega
 rw [← hZ]
 have hcat : Hid (∀ w' v, LitL [F, [130, 130], x] w' v → Calls Tryz.prog 41 #[v] w' fun e w'' => ∃ r, e = .returned r ∧ BIn Z w'' r ∧ Own w' w'' []) := fun w' v h => by
  have h3 := catL_any w' v _ h (by rw [← hZ2]; exact Nat.le_trans hZl.out (by decide)) (by simp)
  rwa [← hZ2] at h3
 have hsum : Hid (∀ w' v, BIn Z w' v → Calls Tryz.prog 62 #[v] w' fun e w'' => e = .returned (.agg (u8s (sha Z)).toArray) ∧ Own w' w'' []) := fun w' v h => refSum_any w' v Z h.2.1 h.2.2 (Nat.le_trans hZl.out (by decide))
 have hx' := Hh hx
 have tx' := Hh tx
 clear hZ hZ2 hF hid h16 hd hx tx
 go_enter Tryz.func33, Tryz.ntmps33
 have z1 := tt
 go_wp2_with (first
  | (clear z1; refine st_new rfl (rn_box (cs := u8s id) H rfl rfl rfl) ?_; clear H; intro b3 w1 hb3 H; have z2 := tt)
  | (clear z2; refine st_new rfl (rn_box (cs := u8s x) H rfl rfl rfl) ?_; clear H; intro b5 w2 hb5 H; have z3 := tt)
  | (clear z3; refine st_new rfl (rn_alloc H rfl info_hash) ?_; clear H; intro b6 w5 hb6 H; have z4 := tt))
 have hc : Hid (∀ w', Own w5 w' [] → ∀ j v, (u8s id)[j]? = some v → w'.cell? ⟨b3, 0 + j, none⟩ = some v) := fun w' h j v hj => by rw [(H.call0 h).cell (.tail _ (.tail _ (.head _))), Nat.zero_add]; exact hj
 have cx : Hid (∀ w', Own w5 w' [] → BIn x w' (.slice (some ⟨b5, 0, none⟩) 32 32)) := fun w' h => (H.call0 h).binAt (.tail _ (.head _)) (fun j v hj => by rw [Nat.zero_add]; exact hj) hx'.out.symm (by omega)
 have H2' := Hh H
 clear H
 refine region_grow 8 (by kernel_rfl) (by kernel_rfl) (by kernel_rfl) [.val (.agg (u8s id).toArray), .val (.int .i64 q), .rel (BIn F), .rel (BIn [130, 130]), .val (.slice (some ⟨b5, 0, none⟩) 32 32), .rel (LitL [F, [130, 130], x]), .rel (BIn Z), .val (.agg (u8s (sha Z)).toArray)] rfl ?_
 have z3 := tt
 try go_frame
 repeat (first
  | (clear z3; refine sp_run (v := .agg (u8s id).toArray) rfl (fun w' hw' _ => rn_cells rfl rfl rfl rfl hsz.out (hc.out w' hw')) ?_; try go_frame; have z4 := tt)
  | (clear z4; refine sp_callR (args := #[.agg (u8s id).toArray, .int .i64 q]) (BIn.mono _) rfl rfl (by simp [Act.eval]) Tryz.func63 (by kernel_rfl) (by kernel_rfl) (fun w' hw' hF => hfr.out w') ?_; intro v10; try go_frame; have z5 := tt)
  | (clear z5; refine sp_rel (BIn.mono _) rfl (fun w' hw' hF => bin_lit (e := 5) rfl rfl (fun w' => by kernel_rfl)) ?_; intro v11; try go_frame; have z6 := tt)
  | (clear z6; refine sp_run (v := .slice (some ⟨b5, 0, none⟩) 32 32) rfl (fun w' hw' _ => rn_sliceAll rfl rfl size_u8 rfl (by omega)) ?_; try go_frame; have z7 := tt)
  | (clear z7; refine sp_rel (LitL.mono _) rfl (fun w' hw' hF => ?_) ?_
     · have r0 := hF.1.2 _ rfl (mE (by kernel_rfl))
       have s0 := r0.1
       obtain ⟨p0, c0, e0⟩ := s0
       subst e0
       have r1 := hF.2 _ rfl (mE (by kernel_rfl))
       have s1 := r1.1
       obtain ⟨p1, c1, e1⟩ := s1
       subst e1
       clear hF
       refine litL_build (e := 27) (l := [(.slice p0 F.length c0, F), (.slice p1 [130, 130].length c1, [130, 130]), (.slice (some ⟨b5, 0, none⟩) 32 32, x)]) rfl rfl rfl (fun x hx => ?_) (fun w' => by kernel_rfl)
       simp only [List.mem_cons, List.not_mem_nil, or_false] at hx
       rcases hx with rfl | rfl | rfl
       · exact ⟨r0, hfb.out⟩
       · exact ⟨r1, isBytes_cons (by omega) (by omega) (isBytes_cons (by omega) (by omega) isBytes_nil)⟩
       · exact ⟨cx.out w' hw', tx'.out⟩
     intro v15; try go_frame; have z8 := tt)
  | (clear z8; refine sp_callR (args := #[v15]) (BIn.mono _) rfl rfl (by simp [Act.eval]) Tryz.func41 (by kernel_rfl) (by kernel_rfl) (fun w' hw' hF => hcat.out w' v15 (hF.2 _ rfl (mE (by kernel_rfl)))) ?_; intro v16; try go_frame; have z9 := tt)
  | (clear z9; refine sp_callN (v := .agg (u8s (sha Z)).toArray) (args := #[v16]) rfl rfl (by simp [Act.eval]) Tryz.func62 (by kernel_rfl) (by kernel_rfl) (fun w' hw' hF => hsum.out w' v16 (hF.2 _ rfl (mE (by kernel_rfl)))) ?_; try go_frame; have z10 := tt)
  | (refine sp_val (fun w' hw' hF => ?_) ⟨_, rfl, nB rfl⟩ ?_
     · go_big_quiet_step (fail)
       exact rfl
     try go_frame))
 refine sp_nil ?_
 intro w6 hw' hF
 have H := H2'.out.call0 hw'
 clear hw' hF H2' hc
 simp only [List.drop_succ_cons, List.drop_zero]
 go_wp2_with (refine st_skip rfl (rn_storeAll (vs := u8s (sha Z)) H rfl rfl rfl (by kernel_rfl) .head (by kernel_rfl) (oneCell_ints _ _)) ?_; clear H; intro w8 H)
 refine fin_cell rfl H rfl (.head _) rfl rfl (by kernel_rfl) rfl ⟨rfl, ?_⟩
 exact H.end0 (by simp; omega)
set_option maxRecDepth 100000 in
theorem rinner_any (w : World) (id x y : List Int) (h16 : id.length = 16) (hid : IsBytes id) (hx : x.length = 32) (tx : IsBytes x) (hy : y.length = 32) (ty : IsBytes y) (q : Nat) (hq : q < 64) :
 Calls Tryz.prog 35 #[.agg (u8s id).toArray, .int .i64 q, .agg (u8s x).toArray, .agg (u8s y).toArray] w fun e w' => e = .returned (.agg (u8s (innerOf id q x y)).toArray) ∧ Own w w' [] := by
 have H := Own.refl w
 have hfr : Hid (∀ w', Calls Tryz.prog 63 #[.agg (u8s id).toArray, .int .i64 q] w' fun e w'' => ∃ r, e = .returned r ∧ BIn (frontq id q) w'' r ∧ Own w' w'' []) := fun w' => (front_any w' id h16 q hq).mono fun e w'' ⟨r, h1, h2⟩ => ⟨r, h1, h2.bin, h2.own0⟩
 have hfb := Hh (isBytes_frontq hid q)
 have hd : innerOf id q x y = sha (frontq id q ++ ([131, 131] ++ (x ++ y))) := rfl
 rw [hd]
 obtain ⟨F, hF⟩ : ∃ F, F = frontq id q := ⟨_, rfl⟩
 rw [← hF] at hfr hfb ⊢
 have hFl : Hid (F.length = 20) := by show _ = _; rw [hF]; exact length_frontq h16 q
 have hsz := Hh (size_idL h16)
 obtain ⟨Z, hZ⟩ : ∃ Z, Z = F ++ ([131, 131] ++ (x ++ y)) := ⟨_, rfl⟩
 have hZ2 : Z = [F, [131, 131], x, y].flatten := by rw [hZ]; simp
 have hZl : Hid (Z.length ≤ 1000) := by show _ ≤ _; rw [hZ]; have := hFl.out; simp; omega
 rw [← hZ]
 have hcat : Hid (∀ w' v, LitL [F, [131, 131], x, y] w' v → Calls Tryz.prog 41 #[v] w' fun e w'' => ∃ r, e = .returned r ∧ BIn Z w'' r ∧ Own w' w'' []) := fun w' v h => by
  have h3 := catL_any w' v _ h (by rw [← hZ2]; exact Nat.le_trans hZl.out (by decide)) (by simp)
  rwa [← hZ2] at h3
 have hsum : Hid (∀ w' v, BIn Z w' v → Calls Tryz.prog 62 #[v] w' fun e w'' => e = .returned (.agg (u8s (sha Z)).toArray) ∧ Own w' w'' []) := fun w' v h => refSum_any w' v Z h.2.1 h.2.2 (Nat.le_trans hZl.out (by decide))
 have hx' := Hh hx
 have tx' := Hh tx
 have hy' := Hh hy
 have ty' := Hh ty
 clear hZ hZ2 hF hid h16 hd hx tx hy ty
 go_enter Tryz.func35, Tryz.ntmps35
 have z1 := tt
 go_wp2_with (first
  | (clear z1; refine st_new rfl (rn_box (cs := u8s id) H rfl rfl rfl) ?_; clear H; intro b4 w1 hb4 H; have z2 := tt)
  | (clear z2; refine st_new rfl (rn_box (cs := u8s x) H rfl rfl rfl) ?_; clear H; intro b6 w2 hb6 H; have z3 := tt)
  | (clear z3; refine st_new rfl (rn_box (cs := u8s y) H rfl rfl rfl) ?_; clear H; intro b7 w3 hb7 H; have z4 := tt)
  | (clear z4; refine st_new rfl (rn_alloc H rfl info_hash) ?_; clear H; intro b8 w5 hb8 H; have z5 := tt))
 have hc : Hid (∀ w', Own w5 w' [] → ∀ j v, (u8s id)[j]? = some v → w'.cell? ⟨b4, 0 + j, none⟩ = some v) := fun w' h j v hj => by rw [(H.call0 h).cell (.tail _ (.tail _ (.tail _ (.head _)))), Nat.zero_add]; exact hj
 have cx : Hid (∀ w', Own w5 w' [] → BIn x w' (.slice (some ⟨b6, 0, none⟩) 32 32)) := fun w' h => (H.call0 h).binAt (.tail _ (.tail _ (.head _))) (fun j v hj => by rw [Nat.zero_add]; exact hj) hx'.out.symm (by omega)
 have cy : Hid (∀ w', Own w5 w' [] → BIn y w' (.slice (some ⟨b7, 0, none⟩) 32 32)) := fun w' h => (H.call0 h).binAt (.tail _ (.head _)) (fun j v hj => by rw [Nat.zero_add]; exact hj) hy'.out.symm (by omega)
 have H2' := Hh H
 clear H
 refine region_grow 9 (by kernel_rfl) (by kernel_rfl) (by kernel_rfl) [.val (.agg (u8s id).toArray), .val (.int .i64 q), .rel (BIn F), .rel (BIn [131, 131]), .val (.slice (some ⟨b6, 0, none⟩) 32 32), .val (.slice (some ⟨b7, 0, none⟩) 32 32), .rel (LitL [F, [131, 131], x, y]), .rel (BIn Z), .val (.agg (u8s (sha Z)).toArray)] rfl ?_
 have z3 := tt
 try go_frame
 repeat (first
  | (clear z3; refine sp_run (v := .agg (u8s id).toArray) rfl (fun w' hw' _ => rn_cells rfl rfl rfl rfl hsz.out (hc.out w' hw')) ?_; try go_frame; have z4 := tt)
  | (clear z4; refine sp_callR (args := #[.agg (u8s id).toArray, .int .i64 q]) (BIn.mono _) rfl rfl (by simp [Act.eval]) Tryz.func63 (by kernel_rfl) (by kernel_rfl) (fun w' hw' hF => hfr.out w') ?_; intro v10; try go_frame; have z5 := tt)
  | (clear z5; refine sp_rel (BIn.mono _) rfl (fun w' hw' hF => bin_lit (e := 5) rfl rfl (fun w' => by kernel_rfl)) ?_; intro v11; try go_frame; have z6 := tt)
  | (clear z6; refine sp_run (v := .slice (some ⟨b6, 0, none⟩) 32 32) rfl (fun w' hw' _ => rn_sliceAll rfl rfl size_u8 rfl (by omega)) ?_; try go_frame; have z7 := tt)
  | (clear z7; refine sp_run (v := .slice (some ⟨b7, 0, none⟩) 32 32) rfl (fun w' hw' _ => rn_sliceAll rfl rfl size_u8 rfl (by omega)) ?_; try go_frame; have z8 := tt)
  | (clear z8; refine sp_rel (LitL.mono _) rfl (fun w' hw' hF => ?_) ?_
     · have r0 := hF.1.2 _ rfl (mE (by kernel_rfl))
       have s0 := r0.1
       obtain ⟨p0, c0, e0⟩ := s0
       subst e0
       have r1 := hF.2 _ rfl (mE (by kernel_rfl))
       have s1 := r1.1
       obtain ⟨p1, c1, e1⟩ := s1
       subst e1
       clear hF
       refine litL_build (e := 27) (l := [(.slice p0 F.length c0, F), (.slice p1 [131, 131].length c1, [131, 131]), (.slice (some ⟨b6, 0, none⟩) 32 32, x), (.slice (some ⟨b7, 0, none⟩) 32 32, y)]) rfl rfl rfl (fun x hx => ?_) (fun w' => by kernel_rfl)
       simp only [List.mem_cons, List.not_mem_nil, or_false] at hx
       rcases hx with rfl | rfl | rfl | rfl
       · exact ⟨r0, hfb.out⟩
       · exact ⟨r1, isBytes_cons (by omega) (by omega) (isBytes_cons (by omega) (by omega) isBytes_nil)⟩
       · exact ⟨cx.out w' hw', tx'.out⟩
       · exact ⟨cy.out w' hw', ty'.out⟩
     intro v15; try go_frame; have z9 := tt)
  | (clear z9; refine sp_callR (args := #[v15]) (BIn.mono _) rfl rfl (by simp [Act.eval]) Tryz.func41 (by kernel_rfl) (by kernel_rfl) (fun w' hw' hF => hcat.out w' v15 (hF.2 _ rfl (mE (by kernel_rfl)))) ?_; intro v16; try go_frame; have z10 := tt)
  | (clear z10; refine sp_callN (v := .agg (u8s (sha Z)).toArray) (args := #[v16]) rfl rfl (by simp [Act.eval]) Tryz.func62 (by kernel_rfl) (by kernel_rfl) (fun w' hw' hF => hsum.out w' v16 (hF.2 _ rfl (mE (by kernel_rfl)))) ?_; try go_frame; have z11 := tt)
  | (refine sp_val (fun w' hw' hF => ?_) ⟨_, rfl, nB rfl⟩ ?_
     · go_big_quiet_step (fail)
       exact rfl
     try go_frame))
 refine sp_nil ?_
 intro w6 hw' hF
 have H := H2'.out.call0 hw'
 clear hw' hF H2' hc
 simp only [List.drop_succ_cons, List.drop_zero]
 go_wp2_with (refine st_skip rfl (rn_storeAll (vs := u8s (sha Z)) H rfl rfl rfl (by kernel_rfl) .head (by kernel_rfl) (oneCell_ints _ _)) ?_; clear H; intro w8 H)
 refine fin_cell rfl H rfl (.head _) rfl rfl (by kernel_rfl) rfl ⟨rfl, ?_⟩
 exact H.end0 (by simp; omega)
def rtC (ss : List Int) (k : Nat) (ns : List Int) : List Value := (u8s ss ++ [.int .i64 k]) ++ u8s ns
section
variable {ss ns : List Int} {k : Nat}
theorem rt_len (h : ss.length = 48) (h2 : ns.length = 2048) : (rtC ss k ns).length = 2097 := by simp [rtC, h, h2]
theorem rt_s {j : Nat} {v : Value} (hj : (u8s ss)[j]? = some v) : (rtC ss k ns)[j]? = some v := by
 have h1 : j < (u8s ss).length := (List.getElem?_eq_some_iff.1 hj).1
 unfold rtC
 rw [List.append_assoc, List.getElem?_append_left h1]
 exact hj
theorem rt_k (h : ss.length = 48) : (rtC ss k ns)[48]? = some (.int .i64 k) := by
 unfold rtC
 rw [List.append_assoc, List.getElem?_append_right (by simp [h])]
 simp [h]
theorem rt_n (h : ss.length = 48) {j : Nat} {v : Value} (hj : (u8s ns)[j]? = some v) : (rtC ss k ns)[49 + j]? = some v := by
 unfold rtC
 rw [List.getElem?_append_right (by simp [h]), show 49 + j - (u8s ss ++ [Value.int .i64 k]).length = j by simp [h]]
 exact hj
theorem rt_splice (h : ss.length = 48) {o : Nat} {x ns' : List Int} (hs : splice ns o x = ns') : splice (rtC ss k ns) (49 + o) (u8s x) = rtC ss k ns' := by
 subst hs
 have e1 : u8s (splice ns o x) = splice (u8s ns) o (u8s x) := by
  unfold splice
  rw [u8s_app, u8s_app, length_ints]
  simp [ints, List.map_take, List.map_drop]
 unfold rtC
 rw [e1, splice_right (by simp [h])]
end
theorem info_rtree : ((Tryz.prog.info? 41).bind (·.zero)).map (fun z => z.cells.toList) = some (rtC (List.replicate 48 0) 0 (List.replicate 2048 0)) := by kernel_rfl
theorem rtree_fill {ss : List Int} {k : Nat} (hss : (u8s ss).length = 48) : fillL [(0, 48), (48, 1), (49, 2048)] (rtC (List.replicate 48 0) 0 (List.replicate 2048 0)) [(0, u8s ss), (1, [.int .i64 k])] = some (rtC ss k (List.replicate 2048 0)) := by
 have h0 : ss.length = 48 := by simpa using hss
 refine fillL_cons (off := 0) (by rw [hss]; rfl) (by rw [hss, rt_len List.length_replicate List.length_replicate]; omega) (cs' := rtC ss 0 (List.replicate 2048 0)) ?_ (fillL_cons (off := 48) rfl (by rw [rt_len h0 List.length_replicate]; exact nB rfl) (cs' := rtC ss k (List.replicate 2048 0)) ?_ rfl)
 · unfold rtC
   rw [List.append_assoc, List.append_assoc, splice_app (by rw [hss]; simp), splice_all (by rw [hss]; simp)]
 · have e := splice_right (A := u8s ss) (o := 0) (x := [Value.int .i64 k]) (B := [.int .i64 (0 : Nat)] ++ u8s (List.replicate 2048 0)) hss
   unfold rtC
   rw [List.append_assoc, List.append_assoc]
   exact e
set_option maxRecDepth 100000 in
theorem rtnew_any (w : World) (id seed : List Int) (h16 : id.length = 16) (h32 : seed.length = 32) (hid : IsBytes id) (hsd : IsBytes seed) (k : Nat) (hk : k = 1 ∨ k = 2 ∨ k = 4 ∨ k = 8) :
 Calls Tryz.prog 10 #[.agg (u8s (id ++ seed)).toArray, .int .i64 k] w fun e w' => ∃ b, e = .returned (.pointer (some ⟨b, 0, none⟩)) ∧ w.heap.size ≤ b ∧ Own w w' [(b, rtC (id ++ seed) k (tblOf (nodeOf id seed k) 0), 41)] := by
 have H := Own.refl w
 obtain ⟨ss, hss⟩ : ∃ s, s = id ++ seed := ⟨_, rfl⟩
 have hs48 : Hid (ss.length = 48) := by show _ = _; rw [hss, List.length_append]; omega
 have hpub : Hid (∀ w' (r : Nat), 32 ≤ r → r < 64 → Calls Tryz.prog 34 #[.agg (u8s ss).toArray, .int .i64 ((r : Int) - 32), .int .i64 k] w' fun e w'' => e = .returned (.agg (u8s (pubOf id seed (r - 32) k)).toArray) ∧ Own w' w'' []) := fun w' r h1 h2 => by
  have h := refPublic_any w' id seed h16 h32 hid hsd (r - 32) k (by omega) hk
  rw [show (((r - 32 : Nat) : Int)) = (r : Int) - 32 by omega] at h
  rw [hss]; exact h
 have hlf : Hid (∀ w' (r : Nat), 32 ≤ r → r < 64 → Calls Tryz.prog 33 #[.agg (u8s id).toArray, .int .i64 r, .agg (u8s (pubOf id seed (r - 32) k)).toArray] w' fun e w'' => e = .returned (.agg (u8s (nodeOf id seed k r)).toArray) ∧ Own w' w'' []) := fun w' r h1 h2 => by
  rw [nodeOf_leaf id seed k h1]
  exact rleaf_any w' id _ h16 hid (length_pubOf ..) (isBytes_sha _) r h2
 have hin : Hid (∀ w' (r : Nat), 0 < r → r < 32 → Calls Tryz.prog 35 #[.agg (u8s id).toArray, .int .i64 r, .agg (u8s (nodeOf id seed k (2 * r))).toArray, .agg (u8s (nodeOf id seed k (2 * r + 1))).toArray] w' fun e w'' => e = .returned (.agg (u8s (nodeOf id seed k r)).toArray) ∧ Own w' w'' []) := fun w' r h1 h2 => by
  rw [nodeOf_inner id seed k h1 h2]
  exact rinner_any w' id _ _ h16 hid (length_nodeOf ..) (isBytes_nodeOf _ _ _ _) (length_nodeOf ..) (isBytes_nodeOf _ _ _ _) r (by omega)
 have hNl : Hid (∀ r, (nodeOf id seed k r).length = 32) := length_nodeOf id seed k
 obtain ⟨N, hN⟩ : ∃ N, N = nodeOf id seed k := ⟨_, rfl⟩
 obtain ⟨Pb, hPb0⟩ : ∃ p, p = fun q => pubOf id seed q k := ⟨_, rfl⟩
 have hPe : ∀ q, pubOf id seed q k = Pb q := fun q => by rw [hPb0]
 simp only [hPe] at hpub hlf
 simp only [← hN] at hlf hin hNl ⊢
 have hsz := Hh (size_idL h16)
 have hid16 : Hid (∀ j v, (u8s id)[j]? = some v → (u8s ss)[j]? = some v) := fun j v h => by
  rw [hss, u8s_app, List.getElem?_append_left (List.getElem?_eq_some_iff.1 h).1]; exact h
 have hsz48 : Hid ((Tryz.prog.info? 26).map (·.size) = some (u8s ss).length) := by show _ = _; rw [length_ints, hs48.out]; exact size_secret
 have hss' : Hid ((u8s ss).length = 48) := by show _ = _; rw [length_ints, hs48.out]
 have hst : Hid (List.replicate 2048 0 = tblOf N 63) := (tblOf_start (N := N)).symm
 rw [← hss]
 clear hss hPb0 hPe hN h16 h32 hk hid hsd
 go_enter Tryz.func10, Tryz.ntmps10
 have z1 := tt
 go_wp2_with (first
  | (clear z1; refine st_new rfl (rn_box (cs := u8s ss) H rfl rfl rfl) ?_; clear H; intro b2 w1 hb2 H; have z2 := tt)
  | (clear z2; refine st_val rfl (rn_loadAll (cs := u8s ss) H rfl rfl (.head _) rfl rfl hsz48.out) ?_; have z3 := tt)
  | (clear z3; refine st_val (v := .agg (rtC ss k (List.replicate 2048 0)).toArray) rfl (rn_buildS (places := [(0, 48), (48, 1), (49, 2048)]) rfl rfl info_rtree (by kernel_rfl) (by exact rtree_fill hss'.out)) ?_; have z4 := tt)
  | (clear z4; refine st_new rfl (rn_box (cs := rtC ss k (List.replicate 2048 0)) H rfl rfl rfl) ?_; clear H; intro bt w2 hbt H; rw [hst.out] at H; have z5 := tt))
 go_loopw [6] (fun v6 wr => ∃ (r : Nat), r ≤ 63 ∧ v6 = .int .i64 ((r : Nat) : Int) ∧ Own w wr [(bt, rtC ss k (tblOf N r), 41), (b2, u8s ss, 26)]) (fun v6 _ => (intOf v6).toNat)
 case atStart => exact ⟨63, by omega, rfl, H⟩
 case round =>
  clear H
  obtain ⟨r, hr, rfl, H⟩ := hrel
  by_cases hr0 : 0 < r
  · have HW := Hh H
    have c_s : Hid (∀ w', Own wr w' [] → ∀ j v, (u8s ss)[j]? = some v → w'.cell? ⟨b2, 0 + j, none⟩ = some v) := fun w' h j v hj => by rw [(HW.out.call0 h).cell (.tail _ (.head _)), Nat.zero_add]; exact hj
    have c_i : Hid (∀ w', Own wr w' [] → ∀ j v, (u8s id)[j]? = some v → w'.cell? ⟨b2, 0 + j, none⟩ = some v) := fun w' h j v hj => c_s.out w' h j v (hid16.out j v hj)
    have hspl : Hid (splice (rtC ss k (tblOf N r)) (49 + 32 * r) (u8s (N r)) = rtC ss k (tblOf N (r - 1))) := by
     obtain ⟨s, rfl⟩ : ∃ s, r = s + 1 := ⟨r - 1, by omega⟩
     exact rt_splice hs48.out (tblOf_step hNl.out (by omega))
    have hlen : Hid ((rtC ss k (tblOf N r)).length = 2097) := rt_len hs48.out (length_tblOf hNl.out _)
    have hrl := Hh (hNl.out r)
    by_cases h32 : 32 ≤ r
    · have hpub1 := Hh (fun w' => hpub.out w' r h32 (by omega))
      have hlf1 := Hh (fun w' => hlf.out w' r h32 (by omega))
      obtain ⟨X, hX⟩ : ∃ x, x = Pb (r - 32) := ⟨_, rfl⟩
      rw [← hX] at hpub1 hlf1
      clear H hX
      go_wp2_with fail
      refine region_grow 14 (by kernel_rfl) (by kernel_rfl) (by kernel_rfl) [.val (.pointer (some ⟨bt, 0, none⟩)), .val (.int .i64 r), .val (.pointer (some ⟨b2, 0, none⟩)), .val (.agg (u8s id).toArray), .val (.int .i64 r), .val (.agg (u8s ss).toArray), .val (.int .i64 r), .val (.int .i64 ((r : Int) - 32)), .val (.int .i64 k), .val (.agg (u8s X).toArray), .val (.agg (u8s (N r)).toArray), .val (.pointer (some ⟨bt, 0, none⟩)), .val (.pointer (some ⟨bt, 49, none⟩)), .val (.pointer (some ⟨bt, 49 + 32 * r, none⟩))] rfl ?_
      have z3 := tt
      try go_frame
      repeat (first
       | (clear z3; refine sp_run (v := .agg (u8s id).toArray) rfl (fun w' hw' _ => rn_cells rfl rfl rfl rfl hsz.out (c_i.out w' hw')) ?_; try go_frame; have z4 := tt)
       | (clear z4; refine sp_run (v := .agg (u8s ss).toArray) rfl (fun w' hw' _ => rn_cells rfl rfl rfl rfl hsz48.out (c_s.out w' hw')) ?_; try go_frame; have z5 := tt)
       | (clear z5; refine sp_callN (v := .agg (u8s X).toArray) (args := #[.agg (u8s ss).toArray, .int .i64 ((r : Int) - 32), .int .i64 k]) rfl rfl (by simp [Act.eval]) Tryz.func34 (by kernel_rfl) (by kernel_rfl) (fun w' _ _ => hpub1.out w') ?_; try go_frame; have z6 := tt)
       | (clear z6; refine sp_callN (v := .agg (u8s (N r)).toArray) (args := #[.agg (u8s id).toArray, .int .i64 r, .agg (u8s X).toArray]) rfl rfl (by simp [Act.eval]) Tryz.func33 (by kernel_rfl) (by kernel_rfl) (fun w' _ _ => hlf1.out w') ?_; try go_frame; have z7 := tt)
       | (clear z7; refine sp_run (v := .pointer (some ⟨bt, 49 + 32 * r, none⟩)) rfl (fun w' _ _ => rn_idxArrN (j := r) rfl rfl size_hash rfl rfl (by omega) (by omega) rfl) ?_; try go_frame; have z8 := tt)
       | (refine sp_val (fun w' hw' hF => ?_) ⟨_, rfl, nB rfl⟩ ?_
          · go_big_quiet_step (fail)
            exact rfl
          try go_frame))
      refine sp_nil ?_
      intro w7 hw' hF
      have H := HW.out.call0 hw'
      clear hw' hF HW
      simp only [List.drop_succ_cons, List.drop_zero]
      go_wp2_with (refine st_skip rfl (rn_storeRow (vs := u8s (N r)) H rfl rfl rfl (size_hashL hrl.out) (by rw [hspl.out]; exact .head) (by rw [hlen.out, length_ints, hrl.out]; omega) (oneCell_ints _ _)) ?_; clear H; intro w8 H)
      exact ⟨⟨r - 1, by omega, by go_num, H⟩, by simp [intOf]; omega⟩
    · have hin1 := Hh (fun w' => hin.out w' r hr0 (by omega))
      have d1 : Hid (∀ w', Own wr w' [] → ∀ j v, (u8s (N (2 * r)))[j]? = some v → w'.cell? ⟨bt, 49 + 32 * (2 * r) + j, none⟩ = some v) := fun w' h j v hj => by rw [(HW.out.call0 h).cell (.head _), Nat.add_assoc]; exact rt_n hs48.out (tbl_at hNl.out (by omega) (by omega) hj)
      have d2 : Hid (∀ w', Own wr w' [] → ∀ j v, (u8s (N (2 * r + 1)))[j]? = some v → w'.cell? ⟨bt, 49 + 32 * (2 * r + 1) + j, none⟩ = some v) := fun w' h j v hj => by rw [(HW.out.call0 h).cell (.head _), Nat.add_assoc]; exact rt_n hs48.out (tbl_at hNl.out (by omega) (by omega) hj)
      have hl1 := Hh (hNl.out (2 * r))
      have hl2 := Hh (hNl.out (2 * r + 1))
      obtain ⟨N1, hN1'⟩ : ∃ x, x = N (2 * r) := ⟨_, rfl⟩
      obtain ⟨N2, hN2'⟩ : ∃ x, x = N (2 * r + 1) := ⟨_, rfl⟩
      rw [← hN1'] at hin1 d1 hl1
      rw [← hN2'] at hin1 d2 hl2
      clear H hN1' hN2'
      go_wp2_with fail
      refine region_grow 24 (by kernel_rfl) (by kernel_rfl) (by kernel_rfl) [.val (.pointer (some ⟨bt, 0, none⟩)), .val (.int .i64 r), .val (.pointer (some ⟨b2, 0, none⟩)), .val (.agg (u8s id).toArray), .val (.int .i64 r), .val (.pointer (some ⟨bt, 0, none⟩)), .val (.int .i64 r), .val (.int .i64 (2 * (r : Int))), .val (.pointer (some ⟨bt, 0, none⟩)), .val (.pointer (some ⟨bt, 49, none⟩)), .val (.pointer (some ⟨bt, 49 + 32 * (2 * r), none⟩)), .val (.agg (u8s N1).toArray), .val (.pointer (some ⟨bt, 0, none⟩)), .val (.int .i64 r), .val (.int .i64 (2 * (r : Int))), .val (.int .i64 (2 * (r : Int) + 1)), .val (.pointer (some ⟨bt, 0, none⟩)), .val (.pointer (some ⟨bt, 49, none⟩)), .val (.pointer (some ⟨bt, 49 + 32 * (2 * r + 1), none⟩)), .val (.agg (u8s N2).toArray), .val (.agg (u8s (N r)).toArray), .val (.pointer (some ⟨bt, 0, none⟩)), .val (.pointer (some ⟨bt, 49, none⟩)), .val (.pointer (some ⟨bt, 49 + 32 * r, none⟩))] rfl ?_
      have z3 := tt
      try go_frame
      repeat (first
       | (clear z3; refine sp_run (v := .agg (u8s id).toArray) rfl (fun w' hw' _ => rn_cells rfl rfl rfl rfl hsz.out (c_i.out w' hw')) ?_; try go_frame; have z4 := tt)
       | (clear z4; refine sp_run (v := .pointer (some ⟨bt, 49 + 32 * (2 * r), none⟩)) rfl (fun w' _ _ => rn_idxArrN (j := (2 * r)) rfl rfl size_hash rfl rfl (by omega) (by omega) rfl) ?_; try go_frame; have z5 := tt)
       | (clear z5; refine sp_run (v := .agg (u8s N1).toArray) rfl (fun w' hw' _ => rn_cells rfl rfl rfl rfl (size_hashL hl1.out) (d1.out w' hw')) ?_; try go_frame; have z6 := tt)
       | (clear z6; refine sp_run (v := .pointer (some ⟨bt, 49 + 32 * (2 * r + 1), none⟩)) rfl (fun w' _ _ => rn_idxArrN (j := (2 * r + 1)) rfl rfl size_hash rfl rfl (by omega) (by omega) rfl) ?_; try go_frame; have z7 := tt)
       | (clear z7; refine sp_run (v := .agg (u8s N2).toArray) rfl (fun w' hw' _ => rn_cells rfl rfl rfl rfl (size_hashL hl2.out) (d2.out w' hw')) ?_; try go_frame; have z8 := tt)
       | (clear z8; refine sp_callN (v := .agg (u8s (N r)).toArray) (args := #[.agg (u8s id).toArray, .int .i64 r, .agg (u8s N1).toArray, .agg (u8s N2).toArray]) rfl rfl (by simp [Act.eval]) Tryz.func35 (by kernel_rfl) (by kernel_rfl) (fun w' _ _ => hin1.out w') ?_; try go_frame; have z9 := tt)
       | (clear z9; refine sp_run (v := .pointer (some ⟨bt, 49 + 32 * r, none⟩)) rfl (fun w' _ _ => rn_idxArrN (j := r) rfl rfl size_hash rfl rfl (by omega) (by omega) rfl) ?_; try go_frame; have z10 := tt)
       | (refine sp_val (fun w' hw' hF => ?_) ⟨_, rfl, nB rfl⟩ ?_
          · go_big_quiet_step (fail)
            exact rfl
          try go_frame))
      refine sp_nil ?_
      intro w7 hw' hF
      have H := HW.out.call0 hw'
      clear hw' hF HW
      simp only [List.drop_succ_cons, List.drop_zero]
      go_wp2_with (refine st_skip rfl (rn_storeRow (vs := u8s (N r)) H rfl rfl rfl (size_hashL hrl.out) (by rw [hspl.out]; exact .head) (by rw [hlen.out, length_ints, hrl.out]; omega) (oneCell_ints _ _)) ?_; clear H; intro w8 H)
      exact ⟨⟨r - 1, by omega, by go_num, H⟩, by simp [intOf]; omega⟩
  · obtain rfl : r = 0 := by omega
    have H2 := Hh (H.dropR (L1 := [_]) (by simpa using hb2))
    clear H
    go_wp2_with fail
    go_ret
    exact ⟨bt, rfl, hbt, H2.out⟩
def RTreeAt (w : World) (b : Nat) (id seed : List Int) (k : Nat) : Prop := w.heap[b]? = some (.cells (rtC (id ++ seed) k (tblOf (nodeOf id seed k) 0)).toArray 41 (0, 0))
section
variable {w w' : World} {b : Nat} {id seed : List Int} {k : Nat} {L : List Ent}
theorem RTreeAt.mv (h : RTreeAt w b id seed k) (ho : Own w w' L) (hn : ∀ k ∈ L.map (·.1), w.heap.size ≤ k) : RTreeAt w' b id seed k := by
 have hb : b < w.heap.size := (Array.getElem?_eq_some_iff.1 h).1
 unfold RTreeAt
 rw [ho.keep b hb (fun hm => by have := hn b hm; omega)]
 exact h
theorem RTreeAt.own (h : RTreeAt w b id seed k) : Own w w [(b, rtC (id ++ seed) k (tblOf (nodeOf id seed k) 0), 41)] := Own.one h
theorem RTreeAt.kc (h : RTreeAt w b id seed k) (h16 : id.length = 16) (h32 : seed.length = 32) : w.cell? ⟨b, 48, none⟩ = some (.int .i64 k) := (h.own.cell (.head _) 48).trans (rt_k (by rw [List.length_append]; omega))
theorem RTreeAt.sc (h : RTreeAt w b id seed k) : ∀ j v, (u8s (id ++ seed))[j]? = some v → w.cell? ⟨b, 0 + j, none⟩ = some v := fun j v hj => by rw [h.own.cell (.head _), Nat.zero_add]; exact rt_s hj
theorem RTreeAt.ids (h : RTreeAt w b id seed k) (h16 : id.length = 16) : BIn id w (.slice (some ⟨b, 0, none⟩) 16 16) := h.own.binAt (.head _) (fun j v hj => by rw [Nat.zero_add]; exact rt_s (by rw [u8s_app, List.getElem?_append_left (List.getElem?_eq_some_iff.1 hj).1]; exact hj)) h16.symm (by omega)
theorem RTreeAt.nc (h : RTreeAt w b id seed k) (h16 : id.length = 16) (h32 : seed.length = 32) {r : Nat} (h0 : 0 < r) (h64 : r < 64) : ∀ j v, (u8s (nodeOf id seed k r))[j]? = some v → w.cell? ⟨b, 49 + 32 * r + j, none⟩ = some v := fun j v hj => by
 rw [h.own.cell (.head _), Nat.add_assoc]
 exact rt_n (by rw [List.length_append]; omega) (tbl_at (length_nodeOf id seed k) h0 h64 hj)
theorem RTreeAt.node (h : RTreeAt w b id seed k) (h16 : id.length = 16) (h32 : seed.length = 32) {r : Nat} (h0 : 0 < r) (h64 : r < 64) : BIn (nodeOf id seed k r) w (.slice (some ⟨b, 49 + 32 * r, none⟩) 32 32) :=
 h.own.binAt (.head _) (fun j v hj => by rw [← h.own.cell (.head _)]; exact h.nc h16 h32 h0 h64 j v hj) (length_nodeOf id seed k r).symm (by omega)
end
set_option maxRecDepth 100000 in
theorem rtpub_any (w : World) (b : Nat) (id seed : List Int) (h16 : id.length = 16) (h32 : seed.length = 32) (hid : IsBytes id) (k : Nat) (hk : k = 1 ∨ k = 2 ∨ k = 4 ∨ k = 8) (hT : RTreeAt w b id seed k) :
 Calls Tryz.prog 13 #[.pointer (some ⟨b, 0, none⟩)] w fun e w' => ∃ p c, e = .returned (.slice p 56 c) ∧ Old w' (.slice p 56 c) (pubL id seed k) ∧ Own w w' [] := by
 have tk := Hh (fun w (h : RTreeAt w b id seed k) => h.kc h16 h32)
 have hn5 : Hid (∀ w', Calls Tryz.prog 42 #[.int .u64 5, .int .i64 4] w' fun e w'' => ∃ r, e = .returned r ∧ BIn (numB 5 4) w'' r ∧ Own w' w'' []) := fun w' => refNum_any w' 5 4 (by omega) (by omega)
 have b5 : Hid (IsBytes (numB 5 4)) := isBytes_numB 5 4
 have ti := Hh (fun w (h : RTreeAt w b id seed k) => h.ids h16)
 have tn : Hid (∀ w, RTreeAt w b id seed k → BIn (nodeOf id seed k 1) w (.slice (some ⟨b, 81, none⟩) 32 32)) := fun w h => h.node h16 h32 (r := 1) (by omega) (by omega)
 have T := Hh hT
 have hcd := Hh (fun w' => refCode_any w' k hk)
 obtain ⟨hcd0, hcd9⟩ := cdN_range k
 obtain ⟨cd, hcd1⟩ : ∃ c, c = cdN k := ⟨_, rfl⟩
 rw [← hcd1] at hcd hcd0 hcd9
 have hnc : Hid (∀ w', Calls Tryz.prog 42 #[.int .u64 cd, .int .i64 4] w' fun e w'' => ∃ r, e = .returned r ∧ BIn (numB cd 4) w'' r ∧ Own w' w'' []) := fun w' => refNum_any w' cd 4 (by omega) (by omega)
 have bc : Hid (IsBytes (numB cd 4)) := isBytes_numB cd 4
 have bn : Hid (IsBytes (nodeOf id seed k 1)) := isBytes_nodeOf _ _ _ _
 have bi := Hh hid
 have hpl := Hh (length_pubL h16 seed k)
 have hZ : Hid ([numB 5 4, numB cd 4, id, nodeOf id seed k 1].flatten = pubL id seed k) := by show _ = _; unfold pubL; rw [hcd1]; simp
 obtain ⟨N1, hN1⟩ : ∃ N, N = nodeOf id seed k 1 := ⟨_, rfl⟩
 obtain ⟨Z, hZ0⟩ : ∃ N, N = pubL id seed k := ⟨_, rfl⟩
 obtain ⟨A5, hA5⟩ : ∃ N, N = numB 5 4 := ⟨_, rfl⟩
 obtain ⟨Ac, hAc⟩ : ∃ N, N = numB cd 4 := ⟨_, rfl⟩
 rw [← hN1] at tn hZ bn
 rw [← hZ0] at hZ hpl ⊢
 rw [← hA5] at hn5 b5 hZ
 rw [← hAc] at hnc bc hZ
 have hcat : Hid (∀ w' v, w.heap.size ≤ w'.heap.size → LitL [A5, Ac, id, N1] w' v → Calls Tryz.prog 41 #[v] w' fun e w'' => ∃ r, e = .returned r ∧ BufR w.heap.size Z w'' r ∧ Own w' w'' []) := fun w' v h1 h2 => catR_any w w' v _ Z hZ.out h2 (by rw [hpl.out]; omega) (by simp) h1
 clear h16 h32 hk hT hid hcd1 hN1 hZ0 hA5 hAc hZ
 go_enter Tryz.func13, Tryz.ntmps13
 go_wp2_with fail
 refine region_grow 19 (by kernel_rfl) (by kernel_rfl) (by kernel_rfl) [.rel (BIn A5), .val (.pointer (some ⟨b, 0, none⟩)), .val (.pointer (some ⟨b, 0, none⟩)), .val (.pointer (some ⟨b, 48, none⟩)), .val (.int .i64 k), .val (.int .u64 cd), .rel (BIn Ac), .val (.pointer (some ⟨b, 0, none⟩)), .val (.pointer (some ⟨b, 0, none⟩)), .val (.pointer (some ⟨b, 0, none⟩)), .val (.pointer (some ⟨b, 0, none⟩)), .val (.slice (some ⟨b, 0, none⟩) 16 16), .val (.pointer (some ⟨b, 0, none⟩)), .val (.pointer (some ⟨b, 0, none⟩)), .val (.pointer (some ⟨b, 49, none⟩)), .val (.pointer (some ⟨b, 81, none⟩)), .val (.slice (some ⟨b, 81, none⟩) 32 32), .rel (LitL [A5, Ac, id, N1]), .rel (BufR w.heap.size Z)] rfl ?_
 have z3 := tt
 try go_frame
 repeat (first
  | (clear z3; refine sp_callR (args := #[.int .u64 5, .int .i64 4]) (BIn.mono _) rfl rfl (by simp [Act.eval]) Tryz.func42 (by kernel_rfl) (by kernel_rfl) (fun w' hw' hF => hn5.out w') ?_; intro v3; try go_frame; have z4 := tt)
  | (clear z4; refine sp_run (v := .int .i64 k) rfl (fun w' hw' _ => rn_cell rfl rfl rfl rfl (tk.out _ (T.out.mv hw' (by simp)))) ?_; try go_frame; have z5 := tt)
  | (clear z5; refine sp_callN (v := .int .u64 cd) (args := #[.int .i64 k]) rfl rfl (by simp [Act.eval]) Tryz.func43 (by kernel_rfl) (by kernel_rfl) (fun w' _ _ => hcd.out w') ?_; try go_frame; have z6 := tt)
  | (clear z6; refine sp_callR (args := #[.int .u64 cd, .int .i64 4]) (BIn.mono _) rfl rfl (by simp [Act.eval]) Tryz.func42 (by kernel_rfl) (by kernel_rfl) (fun w' hw' hF => hnc.out w') ?_; intro v9; try go_frame; have z7 := tt)
  | (clear z7; refine sp_run (v := .slice (some ⟨b, 0, none⟩) 16 16) rfl (fun w' hw' _ => rn_sliceAll rfl rfl size_u8 rfl (by omega)) ?_; try go_frame; have z8 := tt)
  | (clear z8; refine sp_run (v := .pointer (some ⟨b, 81, none⟩)) rfl (fun w' _ _ => rn_idxArrN (j := 1) rfl rfl size_hash rfl rfl rfl (by omega) rfl) ?_; try go_frame; have z9 := tt)
  | (clear z9; refine sp_run (v := .slice (some ⟨b, 81, none⟩) 32 32) rfl (fun w' hw' _ => rn_sliceAll rfl rfl size_u8 rfl (by omega)) ?_; try go_frame; have z10 := tt)
  | (clear z10; refine sp_rel (LitL.mono _) rfl (fun w' hw' hF => ?_) ?_
     · have r0 := hF.1.2 _ rfl (mE (by kernel_rfl))
       have s0 := r0.1
       obtain ⟨p0, c0, e0⟩ := s0
       subst e0
       have r1 := hF.2 _ rfl (mE (by kernel_rfl))
       have s1 := r1.1
       obtain ⟨p1, c1, e1⟩ := s1
       subst e1
       clear hF
       refine litL_build (e := 27) (l := [(.slice p0 A5.length c0, A5), (.slice p1 Ac.length c1, Ac), (.slice (some ⟨b, 0, none⟩) 16 16, id), (.slice (some ⟨b, 81, none⟩) 32 32, N1)]) rfl rfl rfl (fun x hx => ?_) (fun w' => by kernel_rfl)
       simp only [List.mem_cons, List.not_mem_nil, or_false] at hx
       rcases hx with rfl | rfl | rfl | rfl
       · exact ⟨r0, b5.out⟩
       · exact ⟨r1, bc.out⟩
       · exact ⟨ti.out _ (T.out.mv hw' (by simp)), bi.out⟩
       · exact ⟨tn.out _ (T.out.mv hw' (by simp)), bn.out⟩
     intro v20; try go_frame; have z11 := tt)
  | (clear z11; refine sp_callR (args := #[v20]) (BufR.mono _ _) rfl rfl (by simp [Act.eval]) Tryz.func41 (by kernel_rfl) (by kernel_rfl) (fun w' hw' hF => hcat.out w' v20 hw'.size (hF.2 _ rfl (mE (by kernel_rfl)))) ?_; intro v21; try go_frame; have z12 := tt)
  | (refine sp_val (fun w' hw' hF => ?_) ⟨_, rfl, nB rfl⟩ ?_
     · go_big_quiet_step (fail)
       exact rfl
     try go_frame))
 refine sp_nil ?_
 intro w1 hw' hF
 have B := (hF.2 _ rfl trivial).use hw' (Nat.le_refl _) (by simp)
 have hs := B.slice
 obtain ⟨p, c, e1⟩ := hs
 subst e1
 have B1 := Hh B
 rw [hpl.out] at B1 ⊢
 clear hw' hF B
 simp only [List.drop_succ_cons, List.drop_zero]
 go_wp2_with fail
 go_ret
 exact ⟨p, c, rfl, ⟨B1.out.bytesAt, B1.out.lt⟩, B1.out.own0⟩
set_option maxRecDepth 100000 in
theorem rtsign_any (w : World) (b : Nat) (id seed : List Int) (h16 : id.length = 16) (h32 : seed.length = 32) (hid : IsBytes id) (hsd : IsBytes seed) (k : Nat) (hk : k = 1 ∨ k = 2 ∨ k = 4 ∨ k = 8) (hT : RTreeAt w b id seed k) (q : Nat) (hq : q < 32) (mv : Value) (msg : List Int) (hm : Old w mv msg) (hmb : IsBytes msg) (hml : msg.length ≤ 90000) {n : Nat} (hn : n = sizeOfL k) :
 Calls Tryz.prog 16 #[.pointer (some ⟨b, 0, none⟩), .int .i64 q, mv] w fun e w' => ∃ p c, e = .returned (.slice p n c) ∧ Old w' (.slice p n c) (lsigOf id seed k q msg) ∧ Own w w' [] := by
 have tk := Hh (fun w (h : RTreeAt w b id seed k) => h.kc h16 h32)
 have hn5 : Hid (∀ w', Calls Tryz.prog 42 #[.int .u64 5, .int .i64 4] w' fun e w'' => ∃ r, e = .returned r ∧ BIn (numB 5 4) w'' r ∧ Own w' w'' []) := fun w' => refNum_any w' 5 4 (by omega) (by omega)
 have b5 : Hid (IsBytes (numB 5 4)) := isBytes_numB 5 4
 have ts := Hh (fun w (h : RTreeAt w b id seed k) => h.sc)
 have T := Hh hT
 have hC := chN_le k
 have hnq : Hid (∀ w', Calls Tryz.prog 42 #[.int .u64 q, .int .i64 4] w' fun e w'' => ∃ r, e = .returned r ∧ BIn (numB q 4) w'' r ∧ Own w' w'' []) := fun w' => refNum_any w' q 4 (by omega) (by omega)
 have bq : Hid (IsBytes (numB q 4)) := isBytes_numB q 4
 have hsg : Hid (∀ w', Old w' mv msg → Calls Tryz.prog 45 #[.agg (u8s (id ++ seed)).toArray, .int .i64 q, .int .i64 k, mv] w' fun e w'' => ∃ r, e = .returned r ∧ BIn (sigOf id seed q k msg) w'' r ∧ Own w' w'' []) := fun w' h => refSign_any w' id seed h16 h32 hid hsd q k hq hk mv msg h hmb hml
 have bs : Hid (IsBytes (sigOf id seed q k msg)) := isBytes_sigOf _ _ _ _ _
 have hsl := length_sigOf id seed q k msg
 have hll : Hid ((lsigOf id seed k q msg).length = n) := by show _ = _; rw [length_lsigOf, hn]
 have hsz : sizeOfL k = 204 + 32 * chN k := rfl
 have hyl := Hh (length_pathOf id seed k q)
 have tp : Hid (∀ w, RTreeAt w b id seed k → ∀ i, i < 5 → BIn (pathOf id seed k q i) w (.slice (some ⟨b, 49 + sibN ((q + 32) / 2 ^ i) * 32, none⟩) 32 32)) := fun w h i hi => by
  rw [Nat.mul_comm]
  obtain ⟨g1, g2, _⟩ := path_r hq hi
  obtain ⟨g3, g4⟩ := sibN_lt g1 g2
  exact h.node h16 h32 g3 g4
 have hM := Hh hm
 have hsz48 := Hh (size_secretL h16 h32)
 obtain ⟨sg, hsg0⟩ : ∃ s, s = sigOf id seed q k msg := ⟨_, rfl⟩
 obtain ⟨ls, hls0⟩ : ∃ s, s = lsigOf id seed k q msg := ⟨_, rfl⟩
 obtain ⟨Y, hY⟩ : ∃ s, s = pathOf id seed k q := ⟨_, rfl⟩
 obtain ⟨A5, hA5⟩ : ∃ N, N = numB 5 4 := ⟨_, rfl⟩
 obtain ⟨Aq, hAq⟩ : ∃ N, N = numB q 4 := ⟨_, rfl⟩
 have hA5l : A5.length = 4 := by rw [hA5, length_numB]
 have hAql : Aq.length = 4 := by rw [hAq, length_numB]
 obtain ⟨Z, hZ0⟩ : ∃ z, z = Aq ++ sg ++ A5 := ⟨_, rfl⟩
 have hZ : [Aq, sg, A5].flatten = Z := by rw [hZ0]; simp
 have hfin : Hid (Z ++ flatX Y 5 = ls) := by show _ = _; rw [hZ0, hls0, hsg0, hY, hA5, hAq]; rfl
 have hZl : Hid (Z.length + 160 = n) := by show _ = _; rw [hZ0, List.length_append, List.length_append, hA5l, hAql, hsg0, hsl, hn]; omega
 have hn9 : n ≤ 9000 := by omega
 rw [← hsg0] at hsg bs
 rw [← hls0] at hll ⊢
 rw [← hY] at hyl tp
 rw [← hA5] at hn5 b5
 rw [← hAq] at hnq bq
 have hcat : Hid (∀ w' v, w.heap.size ≤ w'.heap.size → LitL [Aq, sg, A5] w' v → Calls Tryz.prog 41 #[v] w' fun e w'' => ∃ r, e = .returned r ∧ BufR w.heap.size Z w'' r ∧ Own w' w'' []) := fun w' v h1 h2 => catR_any w w' v _ Z hZ h2 (by have := hZl.out; omega) (by simp) h1
 obtain ⟨pm, cm, e0⟩ := hm.shape
 subst e0
 obtain ⟨ml, hml0⟩ : ∃ l, l = msg.length := ⟨_, rfl⟩
 rw [← hml0] at hM hsg ⊢
 clear h16 h32 hk hT hid hsd hm hmb hml hn hsl hsg0 hls0 hY hA5 hAq hA5l hAql hZ0 hZ hsz hC hml0
 go_enter Tryz.func16, Tryz.ntmps16
 go_wp2_with fail
 refine region_grow 17 (by kernel_rfl) (by kernel_rfl) (by kernel_rfl) [.val (.int .i64 q), .val (.int .u64 q), .rel (BIn Aq), .val (.pointer (some ⟨b, 0, none⟩)), .val (.pointer (some ⟨b, 0, none⟩)), .val (.pointer (some ⟨b, 0, none⟩)), .val (.agg (u8s (id ++ seed)).toArray), .val (.int .i64 q), .val (.pointer (some ⟨b, 0, none⟩)), .val (.pointer (some ⟨b, 0, none⟩)), .val (.pointer (some ⟨b, 48, none⟩)), .val (.int .i64 k), .val (.slice pm ml cm), .rel (BIn sg), .rel (BIn A5), .rel (LitL [Aq, sg, A5]), .rel (BufR w.heap.size Z)] rfl ?_
 have z3 := tt
 try go_frame
 repeat (first
  | (clear z3; refine sp_callR (args := #[.int .u64 q, .int .i64 4]) (BIn.mono _) rfl rfl (by simp [Act.eval]) Tryz.func42 (by kernel_rfl) (by kernel_rfl) (fun w' hw' hF => hnq.out w') ?_; intro v11; try go_frame; have z4 := tt)
  | (clear z4; refine sp_run (v := .agg (u8s (id ++ seed)).toArray) rfl (fun w' hw' _ => rn_cells rfl rfl rfl rfl hsz48.out (ts.out _ (T.out.mv hw' (by simp)))) ?_; try go_frame; have z5 := tt)
  | (clear z5; refine sp_run (v := .int .i64 k) rfl (fun w' hw' _ => rn_cell rfl rfl rfl rfl (tk.out _ (T.out.mv hw' (by simp)))) ?_; try go_frame; have z6 := tt)
  | (clear z6; refine sp_callR (args := #[.agg (u8s (id ++ seed)).toArray, .int .i64 q, .int .i64 k, .slice pm ml cm]) (BIn.mono _) rfl rfl (by simp [Act.eval]) Tryz.func45 (by kernel_rfl) (by kernel_rfl) (fun w' hw' hF => hsg.out w' (hM.out.mv hw' (by simp))) ?_; intro v22; try go_frame; have z7 := tt)
  | (clear z7; refine sp_callR (args := #[.int .u64 5, .int .i64 4]) (BIn.mono _) rfl rfl (by simp [Act.eval]) Tryz.func42 (by kernel_rfl) (by kernel_rfl) (fun w' hw' hF => hn5.out w') ?_; intro v23; try go_frame; have z8 := tt)
  | (clear z8; refine sp_rel (LitL.mono _) rfl (fun w' hw' hF => ?_) ?_
     · have r0 := hF.1.1.2 _ rfl (mE (by kernel_rfl))
       have s0 := r0.1
       obtain ⟨p0, c0, e0⟩ := s0
       subst e0
       have r1 := hF.1.2 _ rfl (mE (by kernel_rfl))
       have s1 := r1.1
       obtain ⟨p1, c1, e1⟩ := s1
       subst e1
       have r2 := hF.2 _ rfl (mE (by kernel_rfl))
       have s2 := r2.1
       obtain ⟨p2, c2, e2⟩ := s2
       subst e2
       clear hF
       refine litL_build (e := 27) (l := [(.slice p0 Aq.length c0, Aq), (.slice p1 sg.length c1, sg), (.slice p2 A5.length c2, A5)]) rfl rfl rfl (fun x hx => ?_) (fun w' => by kernel_rfl)
       simp only [List.mem_cons, List.not_mem_nil, or_false] at hx
       rcases hx with rfl | rfl | rfl
       · exact ⟨r0, bq.out⟩
       · exact ⟨r1, bs.out⟩
       · exact ⟨r2, b5.out⟩
     intro v24; try go_frame; have z9 := tt)
  | (clear z9; refine sp_callR (args := #[v24]) (BufR.mono _ _) rfl rfl (by simp [Act.eval]) Tryz.func41 (by kernel_rfl) (by kernel_rfl) (fun w' hw' hF => hcat.out w' v24 hw'.size (hF.2 _ rfl (mE (by kernel_rfl)))) ?_; intro v25; try go_frame; have z10 := tt)
  | (refine sp_val (fun w' hw' hF => ?_) ⟨_, rfl, nB rfl⟩ ?_
     · go_big_quiet_step (fail)
       exact rfl
     try go_frame))
 refine sp_nil ?_
 intro w1 hw' hF
 have B := (hF.2 _ rfl trivial).use hw' (Nat.le_refl _) (by simp)
 have hs := B.slice
 obtain ⟨p, c, e1⟩ := hs
 subst e1
 clear hw' hF hcat hn5 hnq hsg b5 bq bs
 simp only [List.drop_succ_cons, List.drop_zero]
 go_wp2_with fail
 go_loopw [7, 8] (fun v7 v8 wr => ∃ (i : Nat) (p : Option Addr) (c : Nat), i ≤ 5 ∧ v8 = .int .i64 (((q + 32) / 2 ^ i : Nat) : Int) ∧ v7 = .slice p (Z.length + 32 * i) c ∧ Buf 5 .u8 w wr [] v7 (Z ++ flatX Y i)) (fun _ v8 _ => (intOf v8).toNat)
 case atStart => exact ⟨0, p, c, by omega, by rw [Nat.pow_zero, Nat.div_one]; rfl, rfl, by rw [flatX_zero, List.append_nil]; exact B⟩
 case round =>
  clear B
  obtain ⟨i, p, c, hi, rfl, rfl, B⟩ := hrel
  by_cases hin : i < 5
  · obtain ⟨g1, g2, g3⟩ := path_r hq hin
    have hx := xor_one _ g2
    obtain ⟨g4, g5⟩ := sibN_lt g1 g2
    have tp1 := Hh (fun w h => tp.out w h i hin)
    have hst : Hid (Z ++ flatX Y i ++ Y i = Z ++ flatX Y (i + 1)) := by show _ = _; rw [flatX_succ, List.append_assoc]
    have hyi := Hh (hyl.out i)
    have hsum : Hid ((Z ++ flatX Y i).length + (Y i).length = Z.length + 32 * (i + 1)) := by show _ = _; rw [List.length_append, length_flatX hyl.out, hyi.out]; omega
    obtain ⟨r, hr⟩ : ∃ r, r = (q + 32) / 2 ^ i := ⟨_, rfl⟩
    rw [← hr] at g1 g2 g3 hx g4 g5 tp1 ⊢
    obtain ⟨Yi, hYi⟩ : ∃ y, y = Y i := ⟨_, rfl⟩
    rw [← hYi] at tp1 hst hyi hsum
    have g3' := Hh g3
    have hZ9 : Z.length ≤ 9000 := by have := hZl.out; omega
    clear hr hYi g3
    go_wp2_with (refine st_app (ys := Yi) rfl B elem_u8 rfl rfl rfl rfl (by have h := (tp1.out _ (T.out.mv B.own0 (by simp))).2.1; rw [BytesAt, hyi.out] at h; rw [hyi.out]; exact h) (by rw [hsum.out]; omega) (by rw [hsum.out]; omega) ?_; clear B; intro p7 c7 w7 B; rw [hst.out] at B; rw [hsum.out] at B ⊢)
    refine ⟨⟨i + 1, _, _, by omega, ?_, rfl, B⟩, ?_⟩
    · rw [← g3'.out]; go_num
    · simp [intOf]; omega
  · obtain rfl : i = 5 := by omega
    have hend := path_end hq
    rw [hend]
    clear hend
    rw [hfin.out, show Z.length + 32 * 5 = n from hZl.out] at B
    rw [show Z.length + 32 * 5 = n from hZl.out]
    have B1 := Hh B
    clear B
    go_wp2_with fail
    go_ret
    exact ⟨p, c, rfl, ⟨by have h := B1.out.bytesAt; exact h, B1.out.lt⟩, B1.out.own0⟩
end Go.Proofs.YtfihlmnbonnekaaGreat
