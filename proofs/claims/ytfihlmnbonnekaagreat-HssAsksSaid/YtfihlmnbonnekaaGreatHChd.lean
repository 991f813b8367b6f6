/- hss.Child and the document's, of any number; and what they stand on. -/
import Derived.Test.YtfihlmnbonnekaaGreatLBuf
import Derived.Test.YtfihlmnbonnekaaGreatMf
namespace Go.Proofs.YtfihlmnbonnekaaGreat
open Go.RowKit
set_option maxHeartbeats 32000000
theorem set_idU {id : List Int} {q i : Nat} (h : id.length = 16) (hq : q < 4294967296) (hi : i < 65536) : ((((((u8s (id ++ List.replicate 39 0)).set 16 (.int .u8 ((q : Int) / 16777216))).set 17 (.int .u8 ((q : Int) / 65536 % 256))).set 18 (.int .u8 ((q : Int) / 256 % 256))).set 19 (.int .u8 ((q : Int) % 256))).set 20 (.int .u8 ((i : Int) / 256))).set 21 (.int .u8 ((i : Int) % 256)) = u8s (pre22 id q i ++ List.replicate 33 0) := by
 have e1 : ∀ (xs : List Int) (j : Nat) (x : Int), (u8s (id ++ xs)).set (16 + j) (.int .u8 x) = u8s (id ++ xs.set j x) := fun xs j x => set_right h
 rw [show (16 : Nat) = 16 + 0 from rfl, e1, show (17 : Nat) = 16 + 1 from rfl, e1, show (18 : Nat) = 16 + 2 from rfl, e1, show (19 : Nat) = 16 + 3 from rfl, e1, show (20 : Nat) = 16 + 4 from rfl, e1, show (21 : Nat) = 16 + 5 from rfl, e1]
 unfold pre22
 congr 1
 rw [List.append_assoc, List.append_assoc]
 congr 1
 have a1 : numB (q : Int) 4 = [(q : Int) / 16777216, (q : Int) / 65536 % 256, (q : Int) / 256 % 256, (q : Int) % 256] := by
  simp [numB, List.range_succ]
  omega
 have a2 : numB (i : Int) 2 = [(i : Int) / 256, (i : Int) % 256] := by
  simp [numB, List.range_succ]
  omega
 rw [a1, a2]
 rfl
set_option maxRecDepth 100000 in
theorem alongU_any (w : World) (id : List Int) (h16 : id.length = 16) (q i : Nat) (hq : q < 4294967296) (hi : i < 65536) :
 Calls Tryz.prog 75 #[.agg (u8s id).toArray, .int .i64 q, .int .i64 i] w fun e w' => ∃ c, e = .returned (.pointer (some ⟨c, 0, none⟩)) ∧ w.heap.size ≤ c ∧ Own w w' [(c, u8s (pre22 id q i ++ List.replicate 33 0), 146)] := by
 have H := Own.refl w
 have h16' := Hh h16
 clear h16
 go_enter Tryz.func75, Tryz.ntmps75
 have z1 := tt
 go_wp2_with (first
  | (clear z1; refine st_new rfl (rn_box (cs := u8s id) H rfl rfl rfl) ?_; clear H; intro b3 w1 hb3 H; have z2 := tt)
  | (clear z2; refine st_new rfl (rn_box (cs := u8s (List.replicate 55 0)) H rfl rfl (by kernel_rfl)) ?_; clear H; intro c w2 hc H))
 refine region_drew 5 (by kernel_rfl) (by kernel_rfl) (by kernel_rfl) ?_
 simp only [List.take_succ_cons, List.take_zero, List.drop_succ_cons, List.drop_zero]
 repeat (first
  | (refine qd_val rfl (fun m => rn_sliceAll rfl rfl size_u8 rfl (by omega)) ?_; go_frame)
  | go_big_quiet_step (fail))
 refine wpQuiet_nil ?_
 rintro w' hw'
 have H' := H
 clear H
 have H := (show Own w w' _ by obtain ⟨m, rfl⟩ := hw'; exact H'.drewN m)
 clear H' hw'
 have hx3 : Hid ((u8s id).take 55 = u8s id) := List.take_of_length_le (by rw [length_ints, h16'.out]; omega)
 have hsp : Hid (splice (u8s (List.replicate 55 0)) 0 (u8s id) = u8s (id ++ List.replicate 39 0)) := splice_id h16'.out
 go_wp2_with (refine st_both rfl (rn_copy (sv := .slice (some ⟨b3, 0, none⟩) 16 16) (xs := u8s id) (k := 16) H rfl rfl size_u8 rfl rfl (by have h := Own.litM (T := 22) H (.tail _ (.head _)) h16'.out.symm; rw [BytesAt, h16'.out] at h; exact h) (by rw [length_ints, h16'.out]) .head (by simp) (oneCell_ints _ _) rfl) ?_; clear H; intro w4 H; rw [hx3.out, hsp.out] at H)
 have he1 := Hh (set_idU (q := q) (i := i) h16'.out hq hi)
 obtain ⟨c0, hc0⟩ : ∃ x, x = u8s (id ++ List.replicate 39 0) := ⟨_, rfl⟩
 rw [← hc0] at H he1
 have hl0 : Hid (c0.length = 55) := by show _ = _; rw [hc0]; simp [h16'.out]
 clear hc0 hx3 hsp
 have H4 := Hh H
 clear H
 refine region_eff 30 (by kernel_rfl) (by kernel_rfl) (by kernel_rfl) [.val (.pointer (some ⟨c, 0, none⟩)), .val (.pointer (some ⟨c, 0, none⟩)), .val (.pointer (some ⟨c, 0, none⟩)), .val (.pointer (some ⟨c, 0, none⟩)), .val (.int .i64 q), .val (.int .i64 ((q : Int) / 16777216)), .val (.int .u8 ((q : Int) / 16777216)), .val (.int .i64 q), .val (.int .i64 ((q : Int) / 65536)), .val (.int .u8 ((q : Int) / 65536 % 256)), .val (.int .i64 q), .val (.int .i64 ((q : Int) / 256)), .val (.int .u8 ((q : Int) / 256 % 256)), .val (.int .i64 q), .val (.int .u8 ((q : Int) % 256)), .val (.pointer (some ⟨c, 0, none⟩)), .val (.pointer (some ⟨c, 0, none⟩)), .val (.pointer (some ⟨c, 16, none⟩)), .eff (fun _ _ => True) (fun _ _ => True), .val (.pointer (some ⟨c, 0, none⟩)), .val (.pointer (some ⟨c, 0, none⟩)), .val (.pointer (some ⟨c, 17, none⟩)), .eff (fun _ _ => True) (fun _ _ => True), .val (.pointer (some ⟨c, 0, none⟩)), .val (.pointer (some ⟨c, 0, none⟩)), .val (.pointer (some ⟨c, 18, none⟩)), .eff (fun _ _ => True) (fun _ _ => True), .val (.pointer (some ⟨c, 0, none⟩)), .val (.pointer (some ⟨c, 0, none⟩)), .val (.pointer (some ⟨c, 19, none⟩))] rfl ?_ (by kernel_rfl) (fun s w' => Own w w' [(c, (match s with | 0 => c0 | 1 => c0.set 16 (.int .u8 ((q : Int) / 16777216)) | 2 => (c0.set 16 (.int .u8 ((q : Int) / 16777216))).set 17 (.int .u8 ((q : Int) / 65536 % 256)) | _ => ((c0.set 16 (.int .u8 ((q : Int) / 16777216))).set 17 (.int .u8 ((q : Int) / 65536 % 256))).set 18 (.int .u8 ((q : Int) / 256 % 256))), 146), (b3, u8s id, 22)]) H4.out (fun _ _ _ h1 h2 => h1.call0 h2) ?_
 · simp [eAll, eRow, Se.pres]
 try go_frame
 repeat (first
  | (refine se_store rfl rfl (fun w' hS hF => ?_) ?_
     · exact (rn_store (w0 := w) (i := 16) (v := .int .u8 ((q : Int) / 16777216)) (show Own w w' [(c, c0, 146), (b3, u8s id, 22)] from hS) rfl rfl rfl (by kernel_rfl) .head (by rw [hl0.out]; omega) rfl).imp fun _ h => ⟨h.1, trivial, h.2⟩
     try go_frame)
  | (refine se_store rfl rfl (fun w' hS hF => ?_) ?_
     · exact (rn_store (w0 := w) (i := 17) (v := .int .u8 ((q : Int) / 65536 % 256)) (show Own w w' [(c, c0.set 16 (.int .u8 ((q : Int) / 16777216)), 146), (b3, u8s id, 22)] from hS) rfl rfl rfl (by kernel_rfl) .head (by simp only [List.length_set]; rw [hl0.out]; omega) rfl).imp fun _ h => ⟨h.1, trivial, h.2⟩
     try go_frame)
  | (refine se_store rfl rfl (fun w' hS hF => ?_) ?_
     · exact (rn_store (w0 := w) (i := 18) (v := .int .u8 ((q : Int) / 256 % 256)) (show Own w w' [(c, (c0.set 16 (.int .u8 ((q : Int) / 16777216))).set 17 (.int .u8 ((q : Int) / 65536 % 256)), 146), (b3, u8s id, 22)] from hS) rfl rfl rfl (by kernel_rfl) .head (by simp only [List.length_set]; rw [hl0.out]; omega) rfl).imp fun _ h => ⟨h.1, trivial, h.2⟩
     try go_frame)
  | (refine se_val (fun w' hw' hF => ?_) ⟨_, rfl, nB rfl⟩ ?_
     · go_big_quiet_step (fail)
       exact rfl
     try go_frame))
 refine se_nil ?_
 intro w5 hS hF
 have H : Own w w5 [(c, ((c0.set 16 (.int .u8 ((q : Int) / 16777216))).set 17 (.int .u8 ((q : Int) / 65536 % 256))).set 18 (.int .u8 ((q : Int) / 256 % 256)), 146), (b3, u8s id, 22)] := hS
 clear hS hF H4
 simp only [List.drop_succ_cons, List.drop_zero]
 go_wp2_with (refine st_skip rfl (rn_store (v := (.int .u8 ((q : Int) % 256))) H rfl rfl rfl (by kernel_rfl) .head (by simp only [List.length_set]; rw [hl0.out]; omega) rfl) ?_; clear H; intro w6 H)
 obtain ⟨c1, hc1⟩ : ∃ x, x = (((c0.set 16 (.int .u8 ((q : Int) / 16777216))).set 17 (.int .u8 ((q : Int) / 65536 % 256))).set 18 (.int .u8 ((q : Int) / 256 % 256))).set 19 (.int .u8 ((q : Int) % 256)) := ⟨_, rfl⟩
 rw [← hc1] at H he1
 have hl1 : Hid (c1.length = 55) := by show _ = _; rw [hc1]; simp only [List.length_set]; exact hl0.out
 clear hc1
 have H6 := Hh H
 clear H
 refine region_eff 14 (by kernel_rfl) (by kernel_rfl) (by kernel_rfl) [.val (.pointer (some ⟨c, 0, none⟩)), .val (.pointer (some ⟨c, 0, none⟩)), .val (.int .i64 i), .val (.int .i64 ((i : Int) / 256)), .val (.int .u8 ((i : Int) / 256)), .val (.int .i64 i), .val (.int .u8 ((i : Int) % 256)), .val (.pointer (some ⟨c, 0, none⟩)), .val (.pointer (some ⟨c, 0, none⟩)), .val (.pointer (some ⟨c, 20, none⟩)), .eff (fun _ _ => True) (fun _ _ => True), .val (.pointer (some ⟨c, 0, none⟩)), .val (.pointer (some ⟨c, 0, none⟩)), .val (.pointer (some ⟨c, 21, none⟩))] rfl ?_ (by kernel_rfl) (fun s w' => Own w w' [(c, (match s with | 0 => c1 | _ => c1.set 20 (.int .u8 ((i : Int) / 256))), 146), (b3, u8s id, 22)]) H6.out (fun _ _ _ h1 h2 => h1.call0 h2) ?_
 · simp [eAll, eRow, Se.pres]
 try go_frame
 repeat (first
  | (refine se_store rfl rfl (fun w' hS hF => ?_) ?_
     · exact (rn_store (w0 := w) (i := 20) (v := .int .u8 ((i : Int) / 256)) (show Own w w' [(c, c1, 146), (b3, u8s id, 22)] from hS) rfl rfl rfl (by kernel_rfl) .head (by rw [hl1.out]; omega) rfl).imp fun _ h => ⟨h.1, trivial, h.2⟩
     try go_frame)
  | (refine se_val (fun w' hw' hF => ?_) ⟨_, rfl, nB rfl⟩ ?_
     · go_big_quiet_step (fail)
       exact rfl
     try go_frame))
 refine se_nil ?_
 intro w7 hS hF
 have H : Own w w7 [(c, c1.set 20 (.int .u8 ((i : Int) / 256)), 146), (b3, u8s id, 22)] := hS
 clear hS hF H6
 simp only [List.drop_succ_cons, List.drop_zero]
 go_wp2_with (refine st_skip rfl (rn_store (v := .int .u8 ((i : Int) % 256)) H rfl rfl rfl (by kernel_rfl) .head (by simp only [List.length_set]; rw [hl1.out]; omega) rfl) ?_; clear H; intro w8 H)
 rw [he1.out] at H
 have h1 := Hh (Own.dropR (L1 := [_]) H (by simpa using hb3))
 clear H
 go_ret
 exact ⟨_, rfl, hc, h1.out⟩
theorem alongU_ch (B : Nat) (w : World) (id : List Int) (h16 : id.length = 16) (q i : Nat) (hq : q < 4294967296) (hi : i < 65536) (hB : B ≤ w.heap.size) :
 Calls Tryz.prog 75 #[.agg (u8s id).toArray, .int .i64 q, .int .i64 i] w fun e w' => ∃ r, e = .returned r ∧ IsCh B (pre22 id q i) w' r ∧ Own w w' [] :=
 (alongU_any w id h16 q i hq hi).mono fun e w' ⟨c, h1, h2, h3⟩ => ⟨_, h1, ⟨c, _, rfl, Nat.le_trans hB h2, length_pre22 h16 q i, by simp, h3.here _ _ _ (.head _)⟩, h3.end0 (by simpa using h2)⟩
set_option maxRecDepth 100000 in
theorem deriveU_any (w : World) (id seed : List Int) (h16 : id.length = 16) (h32 : seed.length = 32) (q n : Nat) (hq : q < 4294967296) (hn : n < 65536) :
 Calls Tryz.prog 72 #[.agg (u8s (id ++ seed)).toArray, .int .i64 q, .int .i64 n] w fun e w' => e = .returned (.agg (u8s (secretOf id seed q n)).toArray) ∧ Own w w' [] := by
 have H := Own.refl w
 have hal : Hid (∀ B w', B ≤ w'.heap.size → Calls Tryz.prog 75 #[.agg (u8s id).toArray, .int .i64 q, .int .i64 n] w' fun e w'' => ∃ r, e = .returned r ∧ IsCh B (pre22 id q n) w'' r ∧ Own w' w'' []) := fun B w' h => alongU_ch B w' id h16 q n hq hn h
 have hR : sha (pre22 id q n ++ 255 :: seed) = secretOf id seed q n := rfl
 obtain ⟨R, hR1⟩ : ∃ R, R = secretOf id seed q n := ⟨_, rfl⟩
 have hRl : Hid (R.length = 32) := by show _ = _; rw [hR1]; rfl
 rw [← hR1] at hR ⊢
 obtain ⟨pre, hpre⟩ : ∃ p, p = pre22 id q n := ⟨_, rfl⟩
 rw [← hpre] at hal hR
 have hone : Hid (∀ (B : Nat) (w0 w' : World) (L : List Ent) (v : Value), IsCh B pre w' v → Own w0 w' L → w0.heap.size ≤ B → (∀ k ∈ L.map (·.1), k < B) → Calls Tryz.prog 92 #[v, .int .i64 255, .agg (u8s seed).toArray] w' fun e w'' => e = .returned (.agg (u8s R).toArray) ∧ ChE B w' w'' ∧ Own w0 w'' L) := fun B w0 w' L v h1 h2 h3 h4 => by
  have h := one_ch h1 h2 h3 h4 255 (by omega) seed h32
  rw [show pre ++ ((255 : Nat) : Int) :: seed = pre ++ 255 :: seed from rfl, hR] at h
  exact h
 have hsz := Hh (size_idL h16)
 have hsz32 := Hh (size_hashL h32)
 have h16' := Hh h16
 clear hR hR1 hpre h16 h32
 go_enter Tryz.func72, Tryz.ntmps72
 have z1 := tt
 go_wp2_with (first
  | (clear z1; refine st_new rfl (rn_box (cs := u8s (id ++ seed)) H rfl rfl rfl) ?_; clear H; intro b3 w1 hb3 H; have z2 := tt)
  | (clear z2; refine st_new rfl (rn_alloc H rfl info_hash) ?_; clear H; intro b6 w2 hb6 H))
 have hBk : Hid (∀ k ∈ ([(b6, u8s (List.replicate 32 0), 24), (b3, u8s (id ++ seed), 26)] : List Ent).map (·.1), k < w2.heap.size) := fun k hk => by
  simp only [List.map_cons, List.map_nil, List.mem_cons, List.not_mem_nil, or_false] at hk
  rcases hk with rfl | rfl
  · exact H.lt (.head _)
  · exact H.lt (.tail _ (.head _))
 have hB0 := Hh H.size
 have H2' := Hh H
 clear H
 refine region_eff 8 (by kernel_rfl) (by kernel_rfl) (by kernel_rfl) [.val (.pointer (some ⟨b3, 0, none⟩)), .val (.agg (u8s id).toArray), .val (.int .i64 q), .val (.int .i64 n), .rel (IsCh w2.heap.size pre), .val (.pointer (some ⟨b3, 16, none⟩)), .val (.agg (u8s seed).toArray), .eff (ChE w2.heap.size) (fun _ v => v = .agg (u8s R).toArray)] rfl ?_ (by kernel_rfl) (fun _ w' => Own w w' [(b6, u8s (List.replicate 32 0), 24), (b3, u8s (id ++ seed), 26)] ∧ w2.heap.size ≤ w'.heap.size) ⟨H2'.out, Nat.le_refl _⟩ (fun _ _ _ h1 h2 => ⟨h1.1.call0 h2, Nat.le_trans h1.2 h2.size⟩) ?_
 · simp only [eAll, eRow, Se.pres, or_true, true_and, and_true]
   exact ⟨Or.inr (Or.inr IsCh.presE), Or.inl trivial⟩
 have z3 := tt
 try go_frame
 repeat (first
  | (clear z3; refine se_run (v := .agg (u8s id).toArray) rfl (fun w' hw' _ => rn_cells rfl rfl rfl rfl hsz.out (fun j v hj => by obtain ⟨_, h, _⟩ := hw'; exact h.rowL (.tail _ (.head _)) j v hj)) ?_; go_frame; have z4 := tt)
  | (clear z4; refine se_callR (args := #[.agg (u8s id).toArray, .int .i64 q, .int .i64 n]) IsCh.mono rfl rfl (by simp [Act.eval]) Tryz.func75 (by kernel_rfl) (by kernel_rfl) (fun w' hw' _ => hal.out _ w' (by obtain ⟨_, _, h⟩ := hw'; exact h)) ?_; intro v11; go_frame; have z5 := tt)
  | (clear z5; refine se_run (v := .agg (u8s seed).toArray) rfl (fun w' hw' _ => rn_cells rfl rfl rfl rfl hsz32.out (fun j v hj => by obtain ⟨_, h, _⟩ := hw'; exact h.rowR (.tail _ (.head _)) h16'.out.symm j v hj)) ?_; go_frame; have z6 := tt)
  | (clear z6; refine se_callE (args := #[v11, .int .i64 255, .agg (u8s seed).toArray]) (fun _ _ _ _ h => h) rfl rfl rfl (by simp [Act.eval]) Tryz.func92 (by kernel_rfl) (by kernel_rfl) (fun w' hS hF => (hone.out _ _ _ _ _ (hF.2 _ rfl (mE (by kernel_rfl))) hS.1 hB0.out hBk.out).mono fun e w'' ⟨h1, h2, h3⟩ => ⟨_, h1, rfl, h2, h3, by obtain ⟨c, p, y1, y2, _, _, _, _, _, h⟩ := h2; exact Nat.le_trans hS.2 h.size⟩) ?_; intro v14; go_frame)
  | (refine se_val (fun w' hw' hF => ?_) ⟨_, rfl, nB rfl⟩ ?_
     · go_big_quiet_step (fail)
       exact rfl
     try go_frame))
 refine se_nil ?_
 intro w5 hS hF
 have H := hS.1
 have e14 := hF.2 _ rfl trivial
 subst e14
 clear hS hF H2' hal hone hBk hB0
 simp only [List.drop_succ_cons, List.drop_zero]
 go_wp2_with (refine st_skip rfl (rn_storeAll (vs := u8s R) H rfl rfl rfl (size_hashL hRl.out) .head (by rw [length_ints, length_ints, hRl.out]; rfl) (oneCell_ints _ _)) ?_; clear H; intro w8 H)
 refine fin_cell rfl H rfl (.head _) rfl rfl (size_hashL hRl.out) rfl ⟨rfl, ?_⟩
 exact H.end0 (by simp; omega)
def frontZ (id : List Int) (q : Int) : List Int := id ++ numB q 4
theorem length_frontZ {id : List Int} (h : id.length = 16) (q : Int) : (frontZ id q).length = 20 := by simp [frontZ, h, length_numB]
theorem isBytes_frontZ {id : List Int} (h : IsBytes id) (q : Int) : IsBytes (frontZ id q) := isBytes_app h (isBytes_numB _ _)
set_option maxRecDepth 100000 in
theorem frontZ_any (w : World) (id : List Int) (h16 : id.length = 16) (q : Int) :
 Calls Tryz.prog 63 #[.agg (u8s id).toArray, .int .i64 q] w fun e w' => ∃ r, e = .returned r ∧ Buf 5 .u8 w w' [] r (frontZ id (IntKind.u64.wrap q)) := by
 have H := Own.refl w
 have h16' := Hh h16
 have hl20 := Hh (length_frontZ h16 (IntKind.u64.wrap q))
 have hfq : Hid (id ++ numB (IntKind.u64.wrap q) 4 = frontZ id (IntKind.u64.wrap q)) := rfl
 have hn4 := Hh (length_numB (IntKind.u64.wrap q) 4)
 clear h16
 go_enter Tryz.func63, Tryz.ntmps63
 have z1 := tt
 go_wp2_with (first
  | (clear z1; refine st_new rfl (rn_box (cs := u8s id) H rfl rfl rfl) ?_; clear H; intro b3 w1 hb3 H; have z2 := tt)
  | (clear z2; refine st_new rfl (rn_buildSlice (e := 5) (cs := u8s []) H rfl (fun w' => by kernel_rfl)) ?_; clear H; intro b w4 hb4 H; have B : Buf 5 .u8 w w4 [(b3, u8s id, 22)] (.slice (some ⟨b, 0, none⟩) 0 0) [] := Buf.lit (xs := []) H hb4 (by decide); clear H hb4; have z3 := tt)
  | (refine st_val rfl (rn_sliceAll rfl rfl size_u8 rfl (by omega)) ?_)
  | (clear z3; refine st_app (ys := id) rfl B elem_u8 rfl rfl rfl rfl (Own.lit B.own0 h16'.out.symm) (by rw [h16'.out]; simp) (by rw [h16'.out]; simp) ?_; clear B; intro p6 c6 w6 B; have e16 : ([] : List Int).length + id.length = 16 := (by rw [h16'.out]; rfl); rw [e16] at B ⊢; clear e16; rw [List.nil_append] at B; have B2 := B.pop hb3; clear B; have B := B2; clear B2; have z4 := tt)
  | (clear z4; go_at_call 42; refine (refNum_any _ (IntKind.u64.wrap q) 4 (by omega) (by omega)).mono ?_; rintro e w7 ⟨r, rfl, hN, h3⟩; replace B := B.call0 h3; clear h3; obtain ⟨pn, cn, en⟩ := hN.1; subst en; rw [hn4.out] at hN ⊢; have hN' := Hh hN.2.1; clear hN; have z5 := tt)
  | (clear z5; refine st_app (ys := numB (IntKind.u64.wrap q) 4) rfl B elem_u8 rfl rfl rfl rfl (by have h := hN'.out; rw [BytesAt, hn4.out] at h; rw [hn4.out]; exact h) (by rw [h16'.out, hn4.out]; simp) (by rw [h16'.out, hn4.out]; simp) ?_; clear B; intro p8 c8 w8 B; rw [hfq.out] at B))
 have h1 := Hh B
 clear B
 go_ret
 exact ⟨_, rfl, h1.out⟩
set_option maxRecDepth 100000 in
theorem secretZ_any (w : World) (id seed : List Int) (h16 : id.length = 16) (h32 : seed.length = 32) (hid : IsBytes id) (hsd : IsBytes seed) (q : Int) (n : Nat) (hn : n < 65536) :
 Calls Tryz.prog 65 #[.agg (u8s (id ++ seed)).toArray, .int .i64 q, .int .i64 n] w fun e w' => e = .returned (.agg (u8s (sha (frontZ id (IntKind.u64.wrap q) ++ numB n 2 ++ 255 :: seed))).toArray) ∧ Own w w' [] := by
 have H := Own.refl w
 have h16' := Hh h16
 have hfr : Hid (∀ w', Calls Tryz.prog 63 #[.agg (u8s id).toArray, .int .i64 q] w' fun e w'' => ∃ r, e = .returned r ∧ BIn (frontZ id (IntKind.u64.wrap q)) w'' r ∧ Own w' w'' []) := fun w' => (frontZ_any w' id h16 q).mono fun e w'' ⟨r, h1, h2⟩ => ⟨r, h1, h2.bin, h2.own0⟩
 have hfb := Hh (isBytes_frontZ hid (IntKind.u64.wrap q))
 have hsb := Hh hsd
 obtain ⟨N, hN⟩ : ∃ N, N = numB n 2 := ⟨_, rfl⟩
 have hnb : Hid (IsBytes N) := by rw [hN]; exact isBytes_numB _ _
 have hnum : Hid (∀ w', Calls Tryz.prog 42 #[.int .u64 n, .int .i64 2] w' fun e w'' => ∃ r, e = .returned r ∧ BIn N w'' r ∧ Own w' w'' []) := fun w' => by rw [hN]; exact refNum_any w' n 2 (by omega) (by omega)
 have hNl : Hid (N.length = 2) := by show _ = _; rw [hN, length_numB]
 obtain ⟨F, hF⟩ : ∃ F, F = frontZ id (IntKind.u64.wrap q) := ⟨_, rfl⟩
 rw [← hF] at hfr hfb
 have hFl : Hid (F.length = 20) := by show _ = _; rw [hF]; exact length_frontZ h16 (IntKind.u64.wrap q)
 have hsz := Hh (size_idL h16)
 obtain ⟨Z, hZ⟩ : ∃ Z, Z = frontZ id (IntKind.u64.wrap q) ++ numB n 2 ++ 255 :: seed := ⟨_, rfl⟩
 have hZ2 : Z = [F, N, [255], seed].flatten := by rw [hZ, ← hF, ← hN]; simp
 have hZl : Hid (Z.length ≤ 55) := by show _ ≤ _; rw [hZ2]; have := hFl.out; have := hNl.out; simp; omega
 rw [← hZ]
 have hcat : Hid (∀ w' v, LitL [F, N, [255], seed] w' v → Calls Tryz.prog 41 #[v] w' fun e w'' => ∃ r, e = .returned r ∧ BIn Z w'' r ∧ Own w' w'' []) := fun w' v h => by
  have h3 := catL_any w' v _ h (by rw [← hZ2]; exact Nat.le_trans hZl.out (by decide)) (by simp)
  rwa [← hZ2] at h3
 have hsum : Hid (∀ w' v, BIn Z w' v → Calls Tryz.prog 62 #[v] w' fun e w'' => e = .returned (.agg (u8s (sha Z)).toArray) ∧ Own w' w'' []) := fun w' v h => refSum_any w' v Z h.2.1 h.2.2 (Nat.le_trans hZl.out (by decide))
 have h32' := Hh h32
 clear hZ hZ2 hF hN hid hsd h16 h32
 go_enter Tryz.func65, Tryz.ntmps65
 have z1 := tt
 go_wp2_with (first
  | (clear z1; refine st_new rfl (rn_box (cs := u8s (id ++ seed)) H rfl rfl rfl) ?_; clear H; intro b3 w1 hb3 H; have z2 := tt)
  | (clear z2; refine st_new rfl (rn_alloc H rfl info_hash) ?_; clear H; intro b6 w2 hb6 H))
 have hc8 : Hid (∀ w', Own w2 w' [] → ∀ j v, (u8s id)[j]? = some v → w'.cell? ⟨b3, 0 + j, none⟩ = some v) := fun w' h j v hj => (H.call0 h).rowL (.tail _ (.head _)) j v hj
 have hc16 : Hid (∀ w', Own w2 w' [] → BIn seed w' (.slice (some ⟨b3, 16, none⟩) 32 32)) := fun w' h => ⟨⟨_, _, by rw [h32'.out]⟩, (H.call0 h).litSub (.tail _ (.head _)) h16'.out.symm h32'.out.symm, fun k hk => by obtain rfl := (blk_some hk).1; exact (H.call0 h).lt (.tail _ (.head _))⟩
 have H2' := Hh H
 clear H
 refine region_grow 13 (by kernel_rfl) (by kernel_rfl) (by kernel_rfl) [.val (.pointer (some ⟨b3, 0, none⟩)), .val (.agg (u8s id).toArray), .val (.int .i64 q), .rel (BIn F), .val (.int .i64 n), .val (.int .u64 n), .rel (BIn N), .rel (BIn [255]), .val (.pointer (some ⟨b3, 16, none⟩)), .val (.slice (some ⟨b3, 16, none⟩) 32 32), .rel (LitL [F, N, [255], seed]), .rel (BIn Z), .val (.agg (u8s (sha Z)).toArray)] rfl ?_
 have z3 := tt
 try go_frame
 repeat (first
  | (clear z3; refine sp_run (v := .agg (u8s id).toArray) rfl (fun w' hw' _ => rn_cells rfl rfl rfl rfl hsz.out (hc8.out w' hw')) ?_; go_frame; have z4 := tt)
  | (clear z4; refine sp_callR (args := #[.agg (u8s id).toArray, .int .i64 q]) (BIn.mono _) rfl rfl (by simp [Act.eval]) Tryz.func63 (by kernel_rfl) (by kernel_rfl) (fun w' hw' _ => hfr.out w') ?_; intro v10; go_frame; have z5 := tt)
  | (clear z5; refine sp_callR (args := #[.int .u64 n, .int .i64 2]) (BIn.mono _) rfl rfl (by simp [Act.eval]) Tryz.func42 (by kernel_rfl) (by kernel_rfl) (fun w' hw' _ => hnum.out w') ?_; intro v13; go_frame; have z6 := tt)
  | (clear z6; refine sp_rel (BIn.mono _) rfl (fun w' hw' hF => bin_lit (e := 5) rfl rfl (fun w' => by kernel_rfl)) ?_; intro v14; go_frame; have z7 := tt)
  | (clear z7; refine sp_run (v := .slice (some ⟨b3, 16, none⟩) 32 32) rfl (fun w' hw' _ => rn_sliceAll rfl rfl size_u8 rfl (by omega)) ?_; go_frame; have z8 := tt)
  | (clear z8; refine sp_rel (LitL.mono _) rfl (fun w' hw' hF => ?_) ?_
     · have h10 := hF.1.1.2 _ rfl (mE (by kernel_rfl))
       have h13 := hF.1.2 _ rfl (mE (by kernel_rfl))
       have h14 := hF.2 _ rfl (mE (by kernel_rfl))
       clear hF
       obtain ⟨p10, c10, e10⟩ := h10.1
       obtain ⟨p13, c13, e13⟩ := h13.1
       obtain ⟨p14, c14, e14⟩ := h14.1
       subst e10 e13 e14
       refine litL_build (e := 27) (l := [(.slice p10 F.length c10, F), (.slice p13 N.length c13, N), (.slice p14 [255].length c14, [255]), (.slice (some ⟨b3, 16, none⟩) 32 32, seed)]) rfl rfl rfl (fun x hx => ?_) (fun w' => by kernel_rfl)
       simp only [List.mem_cons, List.not_mem_nil, or_false] at hx
       rcases hx with rfl | rfl | rfl | rfl
       · exact ⟨h10, hfb.out⟩
       · exact ⟨h13, hnb.out⟩
       · exact ⟨h14, isBytes_cons (by omega) (by omega) isBytes_nil⟩
       · exact ⟨hc16.out w' hw', hsb.out⟩
     intro v17; go_frame; have z9 := tt)
  | (clear z9; refine sp_callR (args := #[v17]) (BIn.mono _) rfl rfl (by simp [Act.eval]) Tryz.func41 (by kernel_rfl) (by kernel_rfl) (fun w' hw' hF => hcat.out w' v17 (hF.2 _ rfl (mE (by kernel_rfl)))) ?_; intro v18; go_frame; have z10 := tt)
  | (clear z10; refine sp_callN (v := .agg (u8s (sha Z)).toArray) (args := #[v18]) rfl rfl (by simp [Act.eval]) Tryz.func62 (by kernel_rfl) (by kernel_rfl) (fun w' hw' hF => hsum.out w' v18 (hF.2 _ rfl (mE (by kernel_rfl)))) ?_; go_frame)
  | (refine sp_val (fun w' hw' hF => ?_) ⟨_, rfl, nB rfl⟩ ?_
     · go_big_quiet_step (fail)
       exact rfl
     try go_frame))
 refine sp_nil ?_
 intro w' hw' hF
 have H := H2'.out.call0 hw'
 clear hw' hF H2' hc8 hc16
 simp only [List.drop_succ_cons, List.drop_zero]
 go_wp2_with (refine st_skip rfl (rn_storeAll (vs := u8s (sha Z)) H rfl rfl rfl (by kernel_rfl) .head (by kernel_rfl) (oneCell_ints _ _)) ?_; clear H; intro w8 H)
 refine fin_cell rfl H rfl (.head _) rfl rfl (by kernel_rfl) rfl ⟨rfl, ?_⟩
 exact H.end0 (by simp; omega)
end Go.Proofs.YtfihlmnbonnekaaGreat
