/- ots: a chain: along, one, walk. -/
import Derived.Test.YtfihlmnbonnekaaDgs
namespace Go.Proofs.Ytfihlmnbonnekaa
open Go.RowKit

/-- what a chain's hashes begin with -/
def pre22 (id : List Int) (q i : Nat) : List Int := id ++ numB q 4 ++ numB i 2
theorem length_pre22 {id : List Int} (h : id.length = 16) (q i : Nat) : (pre22 id q i).length = 22 := by simp [pre22, h, length_numB]

theorem info_c55 : ((Try.prog.info? 157).bind (·.zero)).map (fun z => z.cells.toList) = some (u8s (List.replicate 55 0)) := by kernel_rfl

theorem splice_id {id : List Int} (h : id.length = 16) : splice (u8s (List.replicate 55 0)) 0 (u8s id) = u8s (id ++ List.replicate 39 0) := by
  unfold splice
  rw [length_ints, h]
  simp [ints]

theorem set_right {a b : List Int} {n j : Nat} {x : Int} (h : a.length = n) : (u8s (a ++ b)).set (n + j) (.int .u8 x) = u8s (a ++ b.set j x) := by
  subst h
  rw [← ints_set, List.set_append_right _ _ (by omega)]
  congr 3
  omega

theorem set_id {id : List Int} {q i : Nat} (h : id.length = 16) (hq : q < 32) (hi : i < 65536) : ((((((u8s (id ++ List.replicate 39 0)).set 16 (.int .u8 ((q : Int) / 16777216))).set 17 (.int .u8 ((q : Int) / 65536))).set 18 (.int .u8 ((q : Int) / 256))).set 19 (.int .u8 (q : Int))).set 20 (.int .u8 ((i : Int) / 256))).set 21 (.int .u8 ((i : Int) % 256)) = u8s (pre22 id q i ++ List.replicate 33 0) := by
  have e1 : ∀ (xs : List Int) (j : Nat) (x : Int), (u8s (id ++ xs)).set (16 + j) (.int .u8 x) = u8s (id ++ xs.set j x) := fun xs j x => set_right h
  rw [show (16 : Nat) = 16 + 0 from rfl, e1, show (17 : Nat) = 16 + 1 from rfl, e1, show (18 : Nat) = 16 + 2 from rfl, e1, show (19 : Nat) = 16 + 3 from rfl, e1, show (20 : Nat) = 16 + 4 from rfl, e1, show (21 : Nat) = 16 + 5 from rfl, e1]
  unfold pre22
  congr 1
  rw [List.append_assoc, List.append_assoc]
  congr 1
  have a1 : numB (q : Int) 4 = [(q : Int) / 16777216, (q : Int) / 65536, (q : Int) / 256, (q : Int)] := by
    simp [numB, List.range_succ]
    omega
  have a2 : numB (i : Int) 2 = [(i : Int) / 256, (i : Int) % 256] := by
    simp [numB, List.range_succ]
    omega
  rw [a1, a2]
  rfl

set_option maxRecDepth 100000 in
set_option maxHeartbeats 4000000 in
theorem along_any (w : World) (id : List Int) (h16 : id.length = 16) (q i : Nat) (hq : q < 32) (hi : i < 65536) :
    Calls Try.prog 86 #[.agg (u8s id).toArray, .int .i64 q, .int .i64 i] w fun e w' => ∃ c, e = .returned (.pointer (some ⟨c, 0, none⟩)) ∧ w.heap.size ≤ c ∧ Own w w' [(c, u8s (pre22 id q i ++ List.replicate 33 0), 159)] := by
  have H := Own.refl w
  have h16' := Lib.hid h16
  clear h16
  go_enter Try.func86, Try.ntmps86
  have tok1 : True := trivial
  go_wp2_with (first
    | (clear tok1; refine st_new rfl (rn_box (cs := u8s id) H rfl rfl rfl) ?_; clear H; intro b3 w1 hb3 H; have tok2 : True := trivial)
    | (clear tok2; refine st_new rfl (rn_box (cs := u8s (List.replicate 55 0)) H rfl rfl (by kernel_rfl)) ?_; clear H; intro c w2 hc H))
  refine region_drew 5 (by kernel_rfl) (by kernel_rfl) (by kernel_rfl) ?_
  simp only [List.take_succ_cons, List.take_zero, List.drop_succ_cons, List.drop_zero]
  repeat (first
    | (refine qd_val rfl (fun m => rn_sliceAll rfl rfl size_u8 rfl (by omega)) ?_; go_frame)
    | go_big_quiet_step (fail))
  refine wpQuiet_nil ?_
  rintro w' hw'
  have H' := H
  clear H
  have H := (show Own w w' _ by obtain ⟨m, rfl⟩ := hw'; exact H'.drewN m)
  clear H' hw'
  have hx3 : Hid ((u8s id).take 55 = u8s id) := List.take_of_length_le (by rw [length_ints, h16'.out]; omega)
  have hsp : Hid (splice (u8s (List.replicate 55 0)) 0 (u8s id) = u8s (id ++ List.replicate 39 0)) := splice_id h16'.out
  go_wp2_with (refine st_both rfl (rn_copy (sv := .slice (some ⟨b3, 0, none⟩) 16 16) (xs := u8s id) (k := 16) H rfl rfl size_u8 rfl rfl (by have h := Own.litM (T := 26) H (.tail _ (.head _)) h16'.out.symm; rw [BytesAt, h16'.out] at h; exact h) (by rw [length_ints, h16'.out]) .head (by simp) (oneCell_ints _ _) rfl) ?_; clear H; intro w4 H; rw [hx3.out, hsp.out] at H)
  have he1 := Lib.hid (set_id (q := q) (i := i) h16'.out hq hi)
  obtain ⟨c0, hc0⟩ : ∃ x, x = u8s (id ++ List.replicate 39 0) := ⟨_, rfl⟩
  rw [← hc0] at H he1
  have hl0 : Hid (c0.length = 55) := by show _ = _; rw [hc0]; simp [h16'.out]
  clear hc0 hx3 hsp
  have H4 := Lib.hid H
  clear H
  refine region_eff 30 (by kernel_rfl) (by kernel_rfl) (by kernel_rfl) [.val (.pointer (some ⟨c, 0, none⟩)), .val (.pointer (some ⟨c, 0, none⟩)), .val (.pointer (some ⟨c, 0, none⟩)), .val (.pointer (some ⟨c, 0, none⟩)), .val (.int .i64 q), .val (.int .i64 ((q : Int) / 16777216)), .val (.int .u8 ((q : Int) / 16777216)), .val (.int .i64 q), .val (.int .i64 ((q : Int) / 65536)), .val (.int .u8 ((q : Int) / 65536)), .val (.int .i64 q), .val (.int .i64 ((q : Int) / 256)), .val (.int .u8 ((q : Int) / 256)), .val (.int .i64 q), .val (.int .u8 q), .val (.pointer (some ⟨c, 0, none⟩)), .val (.pointer (some ⟨c, 0, none⟩)), .val (.pointer (some ⟨c, 16, none⟩)), .eff (fun _ _ => True) (fun _ _ => True), .val (.pointer (some ⟨c, 0, none⟩)), .val (.pointer (some ⟨c, 0, none⟩)), .val (.pointer (some ⟨c, 17, none⟩)), .eff (fun _ _ => True) (fun _ _ => True), .val (.pointer (some ⟨c, 0, none⟩)), .val (.pointer (some ⟨c, 0, none⟩)), .val (.pointer (some ⟨c, 18, none⟩)), .eff (fun _ _ => True) (fun _ _ => True), .val (.pointer (some ⟨c, 0, none⟩)), .val (.pointer (some ⟨c, 0, none⟩)), .val (.pointer (some ⟨c, 19, none⟩))] rfl ?_ (by kernel_rfl) (fun s w' => Own w w' [(c, (match s with | 0 => c0 | 1 => c0.set 16 (.int .u8 ((q : Int) / 16777216)) | 2 => (c0.set 16 (.int .u8 ((q : Int) / 16777216))).set 17 (.int .u8 ((q : Int) / 65536)) | _ => ((c0.set 16 (.int .u8 ((q : Int) / 16777216))).set 17 (.int .u8 ((q : Int) / 65536))).set 18 (.int .u8 ((q : Int) / 256))), 159), (b3, u8s id, 26)]) H4.out (fun _ _ _ h1 h2 => h1.call0 h2) ?_
  · simp [eAll, eRow, Se.pres]
  try go_frame
  repeat (first
    | (refine se_store rfl rfl (fun w' hS hF => ?_) ?_
       · exact (rn_store (w0 := w) (i := 16) (v := .int .u8 ((q : Int) / 16777216)) (show Own w w' [(c, c0, 159), (b3, u8s id, 26)] from hS) rfl rfl rfl (by kernel_rfl) .head (by rw [hl0.out]; omega) rfl).imp fun _ h => ⟨h.1, trivial, h.2⟩
       try go_frame)
    | (refine se_store rfl rfl (fun w' hS hF => ?_) ?_
       · exact (rn_store (w0 := w) (i := 17) (v := .int .u8 ((q : Int) / 65536)) (show Own w w' [(c, c0.set 16 (.int .u8 ((q : Int) / 16777216)), 159), (b3, u8s id, 26)] from hS) rfl rfl rfl (by kernel_rfl) .head (by simp only [List.length_set]; rw [hl0.out]; omega) rfl).imp fun _ h => ⟨h.1, trivial, h.2⟩
       try go_frame)
    | (refine se_store rfl rfl (fun w' hS hF => ?_) ?_
       · exact (rn_store (w0 := w) (i := 18) (v := .int .u8 ((q : Int) / 256)) (show Own w w' [(c, (c0.set 16 (.int .u8 ((q : Int) / 16777216))).set 17 (.int .u8 ((q : Int) / 65536)), 159), (b3, u8s id, 26)] from hS) rfl rfl rfl (by kernel_rfl) .head (by simp only [List.length_set]; rw [hl0.out]; omega) rfl).imp fun _ h => ⟨h.1, trivial, h.2⟩
       try go_frame)
    | (refine se_val (fun w' hw' hF => ?_) ⟨_, rfl, Nat.le_of_ble_eq_true rfl⟩ ?_
       · go_big_quiet_step (fail)
         exact rfl
       try go_frame))
  refine se_nil ?_
  intro w5 hS hF
  have H : Own w w5 [(c, ((c0.set 16 (.int .u8 ((q : Int) / 16777216))).set 17 (.int .u8 ((q : Int) / 65536))).set 18 (.int .u8 ((q : Int) / 256)), 159), (b3, u8s id, 26)] := hS
  clear hS hF H4
  simp only [List.drop_succ_cons, List.drop_zero]
  go_wp2_with (refine st_skip rfl (rn_store (v := (.int .u8 (q : Int))) H rfl rfl rfl (by kernel_rfl) .head (by simp only [List.length_set]; rw [hl0.out]; omega) rfl) ?_; clear H; intro w6 H)
  obtain ⟨c1, hc1⟩ : ∃ x, x = (((c0.set 16 (.int .u8 ((q : Int) / 16777216))).set 17 (.int .u8 ((q : Int) / 65536))).set 18 (.int .u8 ((q : Int) / 256))).set 19 (.int .u8 (q : Int)) := ⟨_, rfl⟩
  rw [← hc1] at H he1
  have hl1 : Hid (c1.length = 55) := by show _ = _; rw [hc1]; simp only [List.length_set]; exact hl0.out
  clear hc1
  have H6 := Lib.hid H
  clear H
  refine region_eff 14 (by kernel_rfl) (by kernel_rfl) (by kernel_rfl) [.val (.pointer (some ⟨c, 0, none⟩)), .val (.pointer (some ⟨c, 0, none⟩)), .val (.int .i64 i), .val (.int .i64 ((i : Int) / 256)), .val (.int .u8 ((i : Int) / 256)), .val (.int .i64 i), .val (.int .u8 ((i : Int) % 256)), .val (.pointer (some ⟨c, 0, none⟩)), .val (.pointer (some ⟨c, 0, none⟩)), .val (.pointer (some ⟨c, 20, none⟩)), .eff (fun _ _ => True) (fun _ _ => True), .val (.pointer (some ⟨c, 0, none⟩)), .val (.pointer (some ⟨c, 0, none⟩)), .val (.pointer (some ⟨c, 21, none⟩))] rfl ?_ (by kernel_rfl) (fun s w' => Own w w' [(c, (match s with | 0 => c1 | _ => c1.set 20 (.int .u8 ((i : Int) / 256))), 159), (b3, u8s id, 26)]) H6.out (fun _ _ _ h1 h2 => h1.call0 h2) ?_
  · simp [eAll, eRow, Se.pres]
  try go_frame
  repeat (first
    | (refine se_store rfl rfl (fun w' hS hF => ?_) ?_
       · exact (rn_store (w0 := w) (i := 20) (v := .int .u8 ((i : Int) / 256)) (show Own w w' [(c, c1, 159), (b3, u8s id, 26)] from hS) rfl rfl rfl (by kernel_rfl) .head (by rw [hl1.out]; omega) rfl).imp fun _ h => ⟨h.1, trivial, h.2⟩
       try go_frame)
    | (refine se_val (fun w' hw' hF => ?_) ⟨_, rfl, Nat.le_of_ble_eq_true rfl⟩ ?_
       · go_big_quiet_step (fail)
         exact rfl
       try go_frame))
  refine se_nil ?_
  intro w7 hS hF
  have H : Own w w7 [(c, c1.set 20 (.int .u8 ((i : Int) / 256)), 159), (b3, u8s id, 26)] := hS
  clear hS hF H6
  simp only [List.drop_succ_cons, List.drop_zero]
  go_wp2_with (refine st_skip rfl (rn_store (v := .int .u8 ((i : Int) % 256)) H rfl rfl rfl (by kernel_rfl) .head (by simp only [List.length_set]; rw [hl1.out]; omega) rfl) ?_; clear H; intro w8 H)
  rw [he1.out] at H
  have h1 := Lib.hid (Own.dropR (L1 := [_]) H (by simpa using hb3))
  clear H
  go_ret
  exact ⟨_, rfl, hc, h1.out⟩

end Go.Proofs.Ytfihlmnbonnekaa
