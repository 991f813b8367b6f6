/- ots: a chain: along, one, walk. And what stands on it. No condition. -/
import Derived.Test.YtfihlmnbonnekaaGreatDgA
namespace Go.Proofs.YtfihlmnbonnekaaGreat
open Go.RowKit
set_option maxHeartbeats 32000000
def pre22 (id : List Int) (q i : Nat) : List Int := id ++ numB q 4 ++ numB i 2
theorem length_pre22 {id : List Int} (h : id.length = 16) (q i : Nat) : (pre22 id q i).length = 22 := by simp [pre22, h, length_numB]
theorem splice_id {id : List Int} (h : id.length = 16) : splice (u8s (List.replicate 55 0)) 0 (u8s id) = u8s (id ++ List.replicate 39 0) := by
 unfold splice
 rw [length_ints, h]
 simp [ints]
theorem set_right {a b : List Int} {n j : Nat} {x : Int} (h : a.length = n) : (u8s (a ++ b)).set (n + j) (.int .u8 x) = u8s (a ++ b.set j x) := by
 subst h
 rw [← ints_set, List.set_append_right _ _ (by omega)]
 congr 3
 omega
theorem set_id {id : List Int} {q i : Nat} (h : id.length = 16) (hq : q < 32) (hi : i < 65536) : ((((((u8s (id ++ List.replicate 39 0)).set 16 (.int .u8 ((q : Int) / 16777216))).set 17 (.int .u8 ((q : Int) / 65536))).set 18 (.int .u8 ((q : Int) / 256))).set 19 (.int .u8 (q : Int))).set 20 (.int .u8 ((i : Int) / 256))).set 21 (.int .u8 ((i : Int) % 256)) = u8s (pre22 id q i ++ List.replicate 33 0) := by
 have e1 : ∀ (xs : List Int) (j : Nat) (x : Int), (u8s (id ++ xs)).set (16 + j) (.int .u8 x) = u8s (id ++ xs.set j x) := fun xs j x => set_right h
 rw [show (16 : Nat) = 16 + 0 from rfl, e1, show (17 : Nat) = 16 + 1 from rfl, e1, show (18 : Nat) = 16 + 2 from rfl, e1, show (19 : Nat) = 16 + 3 from rfl, e1, show (20 : Nat) = 16 + 4 from rfl, e1, show (21 : Nat) = 16 + 5 from rfl, e1]
 unfold pre22
 congr 1
 rw [List.append_assoc, List.append_assoc]
 congr 1
 have a1 : numB (q : Int) 4 = [(q : Int) / 16777216, (q : Int) / 65536, (q : Int) / 256, (q : Int)] := by
  simp [numB, List.range_succ]
  omega
 have a2 : numB (i : Int) 2 = [(i : Int) / 256, (i : Int) % 256] := by
  simp [numB, List.range_succ]
  omega
 rw [a1, a2]
 rfl
set_option maxRecDepth 100000 in
theorem along_any (w : World) (id : List Int) (h16 : id.length = 16) (q i : Nat) (hq : q < 32) (hi : i < 65536) :
 Calls Tryz.prog 75 #[.agg (u8s id).toArray, .int .i64 q, .int .i64 i] w fun e w' => ∃ c, e = .returned (.pointer (some ⟨c, 0, none⟩)) ∧ w.heap.size ≤ c ∧ Own w w' [(c, u8s (pre22 id q i ++ List.replicate 33 0), 146)] := by
 have H := Own.refl w
 have h16' := Hh h16
 clear h16
 go_enter Tryz.func75, Tryz.ntmps75
 have z1 := tt
 go_wp2_with (first
  | (clear z1; refine st_new rfl (rn_box (cs := u8s id) H rfl rfl rfl) ?_; clear H; intro b3 w1 hb3 H; have z2 := tt)
  | (clear z2; refine st_new rfl (rn_box (cs := u8s (List.replicate 55 0)) H rfl rfl (by kernel_rfl)) ?_; clear H; intro c w2 hc H))
 refine region_drew 5 (by kernel_rfl) (by kernel_rfl) (by kernel_rfl) ?_
 simp only [List.take_succ_cons, List.take_zero, List.drop_succ_cons, List.drop_zero]
 repeat (first
  | (refine qd_val rfl (fun m => rn_sliceAll rfl rfl size_u8 rfl (by omega)) ?_; go_frame)
  | go_big_quiet_step (fail))
 refine wpQuiet_nil ?_
 rintro w' hw'
 have H' := H
 clear H
 have H := (show Own w w' _ by obtain ⟨m, rfl⟩ := hw'; exact H'.drewN m)
 clear H' hw'
 have hx3 : Hid ((u8s id).take 55 = u8s id) := List.take_of_length_le (by rw [length_ints, h16'.out]; omega)
 have hsp : Hid (splice (u8s (List.replicate 55 0)) 0 (u8s id) = u8s (id ++ List.replicate 39 0)) := splice_id h16'.out
 go_wp2_with (refine st_both rfl (rn_copy (sv := .slice (some ⟨b3, 0, none⟩) 16 16) (xs := u8s id) (k := 16) H rfl rfl size_u8 rfl rfl (by have h := Own.litM (T := 22) H (.tail _ (.head _)) h16'.out.symm; rw [BytesAt, h16'.out] at h; exact h) (by rw [length_ints, h16'.out]) .head (by simp) (oneCell_ints _ _) rfl) ?_; clear H; intro w4 H; rw [hx3.out, hsp.out] at H)
 have he1 := Hh (set_id (q := q) (i := i) h16'.out hq hi)
 obtain ⟨c0, hc0⟩ : ∃ x, x = u8s (id ++ List.replicate 39 0) := ⟨_, rfl⟩
 rw [← hc0] at H he1
 have hl0 : Hid (c0.length = 55) := by show _ = _; rw [hc0]; simp [h16'.out]
 clear hc0 hx3 hsp
 have H4 := Hh H
 clear H
 refine region_eff 30 (by kernel_rfl) (by kernel_rfl) (by kernel_rfl) [.val (.pointer (some ⟨c, 0, none⟩)), .val (.pointer (some ⟨c, 0, none⟩)), .val (.pointer (some ⟨c, 0, none⟩)), .val (.pointer (some ⟨c, 0, none⟩)), .val (.int .i64 q), .val (.int .i64 ((q : Int) / 16777216)), .val (.int .u8 ((q : Int) / 16777216)), .val (.int .i64 q), .val (.int .i64 ((q : Int) / 65536)), .val (.int .u8 ((q : Int) / 65536)), .val (.int .i64 q), .val (.int .i64 ((q : Int) / 256)), .val (.int .u8 ((q : Int) / 256)), .val (.int .i64 q), .val (.int .u8 q), .val (.pointer (some ⟨c, 0, none⟩)), .val (.pointer (some ⟨c, 0, none⟩)), .val (.pointer (some ⟨c, 16, none⟩)), .eff (fun _ _ => True) (fun _ _ => True), .val (.pointer (some ⟨c, 0, none⟩)), .val (.pointer (some ⟨c, 0, none⟩)), .val (.pointer (some ⟨c, 17, none⟩)), .eff (fun _ _ => True) (fun _ _ => True), .val (.pointer (some ⟨c, 0, none⟩)), .val (.pointer (some ⟨c, 0, none⟩)), .val (.pointer (some ⟨c, 18, none⟩)), .eff (fun _ _ => True) (fun _ _ => True), .val (.pointer (some ⟨c, 0, none⟩)), .val (.pointer (some ⟨c, 0, none⟩)), .val (.pointer (some ⟨c, 19, none⟩))] rfl ?_ (by kernel_rfl) (fun s w' => Own w w' [(c, (match s with | 0 => c0 | 1 => c0.set 16 (.int .u8 ((q : Int) / 16777216)) | 2 => (c0.set 16 (.int .u8 ((q : Int) / 16777216))).set 17 (.int .u8 ((q : Int) / 65536)) | _ => ((c0.set 16 (.int .u8 ((q : Int) / 16777216))).set 17 (.int .u8 ((q : Int) / 65536))).set 18 (.int .u8 ((q : Int) / 256))), 146), (b3, u8s id, 22)]) H4.out (fun _ _ _ h1 h2 => h1.call0 h2) ?_
 · simp [eAll, eRow, Se.pres]
 try go_frame
 repeat (first
  | (refine se_store rfl rfl (fun w' hS hF => ?_) ?_
     · exact (rn_store (w0 := w) (i := 16) (v := .int .u8 ((q : Int) / 16777216)) (show Own w w' [(c, c0, 146), (b3, u8s id, 22)] from hS) rfl rfl rfl (by kernel_rfl) .head (by rw [hl0.out]; omega) rfl).imp fun _ h => ⟨h.1, trivial, h.2⟩
     try go_frame)
  | (refine se_store rfl rfl (fun w' hS hF => ?_) ?_
     · exact (rn_store (w0 := w) (i := 17) (v := .int .u8 ((q : Int) / 65536)) (show Own w w' [(c, c0.set 16 (.int .u8 ((q : Int) / 16777216)), 146), (b3, u8s id, 22)] from hS) rfl rfl rfl (by kernel_rfl) .head (by simp only [List.length_set]; rw [hl0.out]; omega) rfl).imp fun _ h => ⟨h.1, trivial, h.2⟩
     try go_frame)
  | (refine se_store rfl rfl (fun w' hS hF => ?_) ?_
     · exact (rn_store (w0 := w) (i := 18) (v := .int .u8 ((q : Int) / 256)) (show Own w w' [(c, (c0.set 16 (.int .u8 ((q : Int) / 16777216))).set 17 (.int .u8 ((q : Int) / 65536)), 146), (b3, u8s id, 22)] from hS) rfl rfl rfl (by kernel_rfl) .head (by simp only [List.length_set]; rw [hl0.out]; omega) rfl).imp fun _ h => ⟨h.1, trivial, h.2⟩
     try go_frame)
  | (refine se_val (fun w' hw' hF => ?_) ⟨_, rfl, nB rfl⟩ ?_
     · go_big_quiet_step (fail)
       exact rfl
     try go_frame))
 refine se_nil ?_
 intro w5 hS hF
 have H : Own w w5 [(c, ((c0.set 16 (.int .u8 ((q : Int) / 16777216))).set 17 (.int .u8 ((q : Int) / 65536))).set 18 (.int .u8 ((q : Int) / 256)), 146), (b3, u8s id, 22)] := hS
 clear hS hF H4
 simp only [List.drop_succ_cons, List.drop_zero]
 go_wp2_with (refine st_skip rfl (rn_store (v := (.int .u8 (q : Int))) H rfl rfl rfl (by kernel_rfl) .head (by simp only [List.length_set]; rw [hl0.out]; omega) rfl) ?_; clear H; intro w6 H)
 obtain ⟨c1, hc1⟩ : ∃ x, x = (((c0.set 16 (.int .u8 ((q : Int) / 16777216))).set 17 (.int .u8 ((q : Int) / 65536))).set 18 (.int .u8 ((q : Int) / 256))).set 19 (.int .u8 (q : Int)) := ⟨_, rfl⟩
 rw [← hc1] at H he1
 have hl1 : Hid (c1.length = 55) := by show _ = _; rw [hc1]; simp only [List.length_set]; exact hl0.out
 clear hc1
 have H6 := Hh H
 clear H
 refine region_eff 14 (by kernel_rfl) (by kernel_rfl) (by kernel_rfl) [.val (.pointer (some ⟨c, 0, none⟩)), .val (.pointer (some ⟨c, 0, none⟩)), .val (.int .i64 i), .val (.int .i64 ((i : Int) / 256)), .val (.int .u8 ((i : Int) / 256)), .val (.int .i64 i), .val (.int .u8 ((i : Int) % 256)), .val (.pointer (some ⟨c, 0, none⟩)), .val (.pointer (some ⟨c, 0, none⟩)), .val (.pointer (some ⟨c, 20, none⟩)), .eff (fun _ _ => True) (fun _ _ => True), .val (.pointer (some ⟨c, 0, none⟩)), .val (.pointer (some ⟨c, 0, none⟩)), .val (.pointer (some ⟨c, 21, none⟩))] rfl ?_ (by kernel_rfl) (fun s w' => Own w w' [(c, (match s with | 0 => c1 | _ => c1.set 20 (.int .u8 ((i : Int) / 256))), 146), (b3, u8s id, 22)]) H6.out (fun _ _ _ h1 h2 => h1.call0 h2) ?_
 · simp [eAll, eRow, Se.pres]
 try go_frame
 repeat (first
  | (refine se_store rfl rfl (fun w' hS hF => ?_) ?_
     · exact (rn_store (w0 := w) (i := 20) (v := .int .u8 ((i : Int) / 256)) (show Own w w' [(c, c1, 146), (b3, u8s id, 22)] from hS) rfl rfl rfl (by kernel_rfl) .head (by rw [hl1.out]; omega) rfl).imp fun _ h => ⟨h.1, trivial, h.2⟩
     try go_frame)
  | (refine se_val (fun w' hw' hF => ?_) ⟨_, rfl, nB rfl⟩ ?_
     · go_big_quiet_step (fail)
       exact rfl
     try go_frame))
 refine se_nil ?_
 intro w7 hS hF
 have H : Own w w7 [(c, c1.set 20 (.int .u8 ((i : Int) / 256)), 146), (b3, u8s id, 22)] := hS
 clear hS hF H6
 simp only [List.drop_succ_cons, List.drop_zero]
 go_wp2_with (refine st_skip rfl (rn_store (v := .int .u8 ((i : Int) % 256)) H rfl rfl rfl (by kernel_rfl) .head (by simp only [List.length_set]; rw [hl1.out]; omega) rfl) ?_; clear H; intro w8 H)
 rw [he1.out] at H
 have h1 := Hh (Own.dropR (L1 := [_]) H (by simpa using hb3))
 clear H
 go_ret
 exact ⟨_, rfl, hc, h1.out⟩
end Go.Proofs.YtfihlmnbonnekaaGreat
namespace Go.Proofs.YtfihlmnbonnekaaGreat
open Go.RowKit
theorem splice_one {pre ys x : List Int} {at1 : Int} (h1 : pre.length = 22) (h2 : ys.length = 33) (h3 : x.length = 32) : splice ((u8s (pre ++ ys)).set 22 (.int .u8 at1)) 23 (u8s x) = u8s (pre ++ at1 :: x) := by
 cases ys with
 | nil => simp at h2
 | cons y ys =>
   rw [show (22 : Nat) = 22 + 0 from rfl, set_right h1, List.set_cons_zero]
   have hl : (u8s (pre ++ at1 :: ys)).length = 55 := by rw [length_ints, List.length_append, h1, List.length_cons]; simp at h2; omega
   unfold splice
   rw [length_ints, h3, List.drop_of_length_le (by omega), List.append_nil]
   have e : u8s (pre ++ at1 :: ys) = u8s (pre ++ [at1]) ++ u8s ys := by rw [← ints_append, List.append_assoc]; rfl
   have e2 : u8s (pre ++ at1 :: x) = u8s (pre ++ [at1]) ++ u8s x := by rw [← ints_append, List.append_assoc]; rfl
   rw [e, e2, List.take_left' (by rw [length_ints, List.length_append, h1]; rfl)]
set_option maxRecDepth 100000 in
theorem one_any (w : World) (b n : Nat) (pre ys x : List Int) (hn : n < 256) (hpre : pre.length = 22) (hys : ys.length = 33) (hx : x.length = 32) (H0 : Own w w [(b, u8s (pre ++ ys), 146)]) :
 Calls Tryz.prog 92 #[.pointer (some ⟨b, 0, none⟩), .int .i64 n, .agg (u8s x).toArray] w fun e w' => e = .returned (.agg (u8s (sha (pre ++ (n : Int) :: x))).toArray) ∧ Own w w' [(b, u8s (pre ++ (n : Int) :: x), 146)] := by
 have H := H0
 have hsp := Hh (splice_one (at1 := (n : Int)) hpre hys hx)
 have hl := Hh (show (u8s (pre ++ ys)).length = 55 by rw [length_ints, List.length_append, hpre, hys])
 have hl2 := Hh (show (u8s (pre ++ (n : Int) :: x)).length = 55 by rw [length_ints, List.length_append, hpre, List.length_cons, hx])
 have hx' := Hh hx
 have hbs := Hh (show 55 = (pre ++ (n : Int) :: x).length by rw [List.length_append, hpre, List.length_cons, hx])
 obtain ⟨c0, hc0⟩ : ∃ c, c = u8s (pre ++ ys) := ⟨_, rfl⟩
 rw [← hc0] at H hsp hl
 obtain ⟨zs, hzs⟩ : ∃ z, z = pre ++ (n : Int) :: x := ⟨_, rfl⟩
 rw [← hzs] at hsp hl2 hbs ⊢
 clear hx hpre hys hc0 hzs H0
 go_enter Tryz.func92, Tryz.ntmps92
 have z1 := tt
 go_wp2_with (first
  | (clear z1; refine st_new rfl (rn_box (cs := u8s x) H rfl rfl rfl) ?_; clear H; intro b5 w1 hb5 H; have z2 := tt)
  | (clear z2; refine st_new rfl (rn_alloc H rfl (by kernel_rfl : ((Tryz.prog.info? 24).bind (·.zero)).map (fun z => z.cells.toList) = some (u8s (List.replicate 32 0)))) ?_; clear H; intro b6 w2 hb6 H)
  | (refine st_skip rfl (rn_store (v := .int .u8 n) H rfl rfl rfl (by kernel_rfl) (.tail (.tail .head)) (by rw [hl.out]; omega) rfl) ?_; clear H; intro w3 H))
 refine region_drew 5 (by kernel_rfl) (by kernel_rfl) (by kernel_rfl) ?_
 simp only [List.take_succ_cons, List.take_zero, List.drop_succ_cons, List.drop_zero]
 try go_frame
 repeat (first
  | (refine qd_val (v := .slice (some ⟨b, 23, none⟩) 32 32) rfl (fun m => rn_sliceArr (l := 23) (h := 55) rfl rfl size_u8 rfl (by exact .is rfl rfl rfl) (by exact .no _) (by omega) (by omega)) ?_; go_frame)
  | (refine qd_val rfl (fun m => rn_sliceAll rfl rfl size_u8 rfl (by omega)) ?_; go_frame)
  | go_big_quiet_step (fail))
 refine wpQuiet_nil ?_
 rintro w' hw'
 have H' := H
 clear H
 have H := (show Own w w' _ by obtain ⟨m, rfl⟩ := hw'; exact H'.drewN m)
 clear H' hw'
 have hx3 : Hid ((u8s x).take 32 = u8s x) := List.take_of_length_le (by rw [length_ints, hx'.out]; omega)
 go_wp2_with (first
  | (refine st_both rfl (rn_copy (sv := .slice (some ⟨b5, 0, none⟩) 32 32) (xs := u8s x) (k := 32) H rfl rfl size_u8 rfl rfl (by have h := Own.litM (T := 24) H (.tail _ (.head _)) hx'.out.symm; rw [BytesAt, hx'.out] at h; exact h) (by rw [length_ints, hx'.out]) (.tail (.tail .head)) (by simp only [List.length_set]; rw [hl.out]; decide) (oneCell_ints _ _) rfl) ?_; clear H; intro w4 H; rw [hx3.out, hsp.out] at H)
  | (refine st_val rfl (rn_sliceAll rfl rfl size_u8 rfl (by omega)) ?_)
  | (go_at_call 83; refine (shaSum_any _ _ zs (Own.litM (T := 146) H (.tail _ (.tail _ (.head _))) hbs.out) (by intro k hk; obtain rfl := (blk_some hk).1; exact H.lt (.tail _ (.tail _ (.head _)))) (by rw [← hbs.out]; omega)).mono ?_; rintro e w5 ⟨rfl, h3⟩; replace H := H.call0 h3; clear h3)
  | (refine st_skip rfl (rn_storeAll (vs := u8s (sha zs)) H rfl rfl rfl (by kernel_rfl) .head (by kernel_rfl) (oneCell_ints _ _)) ?_; clear H; intro w6 H))
 refine fin_cell rfl H rfl (.head _) rfl rfl (by kernel_rfl) rfl ⟨rfl, ?_⟩
 exact Own.drop (L1 := [_, _]) H (by simp; exact ⟨hb6, hb5⟩)
def stepsC (pre : List Int) (f : Nat) (x : List Int) : Nat → List Int
 | 0 => x
 | n + 1 => sha (pre ++ ((f + n : Nat) : Int) :: stepsC pre f x n)
theorem length_stepsC {pre : List Int} {f : Nat} {x : List Int} (h : x.length = 32) : ∀ n, (stepsC pre f x n).length = 32
 | 0 => h
 | _ + 1 => rfl
theorem stepsC_add {pre : List Int} {f : Nat} {x : List Int} {m : Nat} : ∀ n, stepsC pre (f + m) (stepsC pre f x m) n = stepsC pre f x (m + n)
 | 0 => rfl
 | n + 1 => by
   show sha (pre ++ ((f + m + n : Nat) : Int) :: stepsC pre (f + m) (stepsC pre f x m) n) = sha (pre ++ ((f + (m + n) : Nat) : Int) :: stepsC pre f x (m + n))
   rw [stepsC_add n, Nat.add_assoc]
theorem isBytes_stepsC {pre : List Int} {f : Nat} {x : List Int} (h : IsBytes x) : ∀ n, IsBytes (stepsC pre f x n)
 | 0 => h
 | _ + 1 => isBytes_sha _
theorem length_cons33 {x : List Int} {a : Int} (h : x.length = 32) : (a :: x).length = 33 := by rw [List.length_cons, h]
theorem size_hashL {xs : List Int} (h : xs.length = 32) : (Tryz.prog.info? 24).map (·.size) = some (u8s xs).length := by rw [length_ints, h]; exact size_hash
set_option maxRecDepth 100000 in
theorem walk_any (w : World) (b f t : Nat) (pre ys x : List Int) (hft : f ≤ t) (ht : t ≤ 256) (hpre : pre.length = 22) (hys : ys.length = 33) (hx : x.length = 32) (H0 : Own w w [(b, u8s (pre ++ ys), 146)]) :
 Calls Tryz.prog 76 #[.pointer (some ⟨b, 0, none⟩), .agg (u8s x).toArray, .int .i64 f, .int .i64 t] w fun e w' => e = .returned (.agg (u8s (stepsC pre f x (t - f))).toArray) ∧ ∃ ys', ys'.length = 33 ∧ Own w w' [(b, u8s (pre ++ ys'), 146)] := by
 have H := H0
 have hpre' := Hh hpre
 have hys' := Hh hys
 have hx' := Hh hx
 clear hx hpre hys H0
 go_enter Tryz.func76, Tryz.ntmps76
 have z1 := tt
 go_wp2_with (first
  | (clear z1; refine st_new rfl (rn_box (cs := u8s x) H rfl rfl rfl) ?_; clear H; intro b5 w1 hb5 H; have z2 := tt)
  | (clear z2; refine st_new rfl (rn_alloc H rfl info_hash) ?_; clear H; intro b8 w2 hb8 H))
 go_loopw [9] (fun v9 wr => ∃ (i : Nat) (zs : List Int), f + i ≤ t ∧ v9 = .int .i64 ((f + i : Nat) : Int) ∧ zs.length = 33 ∧ Own w wr [(b8, u8s (List.replicate 32 0), 24), (b5, u8s (stepsC pre f x i), 24), (b, u8s (pre ++ zs), 146)]) (fun v9 _ => ((t : Nat) - intOf v9).toNat)
 case atStart => exact ⟨0, ys, by omega, rfl, hys'.out, H⟩
 case round =>
  clear H
  obtain ⟨i, zs, hi, rfl, hzs, H⟩ := hrel
  have hzs' := Hh hzs
  have hlx := Hh (length_stepsC (pre := pre) (f := f) hx'.out i)
  have hst : Hid (stepsC pre f x (i + 1) = sha (pre ++ ((f + i : Nat) : Int) :: stepsC pre f x i)) := rfl
  have hl33 := Hh (length_cons33 (a := ((f + i : Nat) : Int)) hlx.out)
  have hfin : Hid (f + i = t → t - f = i) := fun h => by omega
  obtain ⟨k, hk⟩ : ∃ k, k = f + i := ⟨_, rfl⟩
  rw [← hk] at hst hl33 hi hfin ⊢
  obtain ⟨xi, hxi⟩ : ∃ y, y = stepsC pre f x i := ⟨_, rfl⟩
  rw [← hxi] at H hlx hst hl33
  have hxi' := Hh hxi
  have hk' := Hh hk
  clear hxi hk hzs
  by_cases hin : k < t
  · go_wp2_with (first
     | (refine st_val rfl (rn_loadAll (cs := u8s xi) H rfl rfl (.tail _ (.head _)) rfl rfl (size_hashL hlx.out)) ?_)
     | (go_at_call 92; refine (one_any _ b k pre zs xi (by omega) hpre'.out hzs'.out hlx.out (H.sub1 (.tail _ (.tail _ (.head _))))).mono ?_; rintro e w5 ⟨rfl, h3⟩; replace H := Own.callAt (L1 := [_, _]) H h3; clear h3)
     | (refine st_skip rfl (rn_storeAll (vs := u8s (sha (pre ++ (k : Int) :: xi))) H rfl rfl rfl (by kernel_rfl) (.tail .head) (by rw [length_ints, length_ints, hlx.out]; rfl) (oneCell_ints _ _)) ?_; clear H; intro w6 H; rw [← hst.out] at H))
    exact ⟨⟨i + 1, _, by have := hk'.out; omega, by rw [← Nat.add_assoc, ← hk'.out]; go_num, hl33.out, H⟩, by simp [intOf]; omega⟩
  · obtain rfl : k = t := by omega
    go_wp2_with (first
     | (refine st_val rfl (rn_loadAll (cs := u8s xi) H rfl rfl (.tail _ (.head _)) rfl rfl (size_hashL hlx.out)) ?_)
     | (refine st_skip rfl (rn_storeAll (vs := u8s xi) H rfl rfl rfl (size_hashL hlx.out) .head (by rw [length_ints, length_ints, hlx.out]; rfl) (oneCell_ints _ _)) ?_; clear H; intro w6 H))
    refine fin_cell rfl H rfl (.head _) rfl rfl (size_hashL hlx.out) rfl ⟨?_, zs, hzs'.out, ?_⟩
    · rw [hxi'.out, hfin.out (by trivial)]
    · exact Own.drop (L1 := [_, _]) H (by simp; exact ⟨hb8, hb5⟩)
end Go.Proofs.YtfihlmnbonnekaaGreat
