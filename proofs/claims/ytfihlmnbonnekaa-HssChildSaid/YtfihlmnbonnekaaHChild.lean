/- chirographlaw5.HssChild: the walk. -/
import Derived.Test.YtfihlmnbonnekaaHRch
namespace Go.Proofs.Ytfihlmnbonnekaa
open Go.RowKit

set_option maxRecDepth 100000 in
set_option maxHeartbeats 8000000 in
theorem hssChild_true (w : World) (id sd : List Int) (h16 : id.length = 16) (h32 : sd.length = 32) (hid : IsBytes id) (hsd : IsBytes sd) (p0 q0 : Int) (P Q : Nat) (hP : IntKind.u32.wrap p0 = (P : Int)) (hQ : IntKind.u32.wrap q0 = (Q : Int)) (hP9 : P < 4294967296) (hQ9 : Q < 4294967296)
    (hE : (decide (cidOf id sd P = cidOf id sd Q) && decide (csdOf id sd P = csdOf id sd Q)) = true) :
    Calls Try.prog 9 #[.agg (u8s (id ++ sd)).toArray, .int .i64 p0, .int .i64 q0] w fun e w' => e = .returned (.bool true) ∧ Own w w' [] := by
  have H := Own.refl w
  have hto := Lib.hid htold_any
  have hsz48 := Lib.hid (size_secretL h16 h32)
  have hc1 : Hid (∀ w', Calls Try.prog 31 #[.agg (u8s (id ++ sd)).toArray, .int .i64 p0] w' fun e w'' => e = .returned (.agg (u8s (cidOf id sd P ++ csdOf id sd P)).toArray) ∧ Own w' w'' []) := fun w' => child_any w' id sd h16 h32 p0 P hP9 hP
  have hc2 : Hid (∀ w', Calls Try.prog 31 #[.agg (u8s (id ++ sd)).toArray, .int .i64 q0] w' fun e w'' => e = .returned (.agg (u8s (cidOf id sd Q ++ csdOf id sd Q)).toArray) ∧ Own w' w'' []) := fun w' => child_any w' id sd h16 h32 q0 Q hQ9 hQ
  have hr1 : Hid (∀ w', Calls Try.prog 33 #[.agg (u8s (id ++ sd)).toArray, .int .i64 p0] w' fun e w'' => e = .returned (.agg (u8s (cidOf id sd P ++ csdOf id sd P)).toArray) ∧ Own w' w'' []) := fun w' => rchild_any w' id sd h16 h32 hid hsd p0 P hP
  have hr2 : Hid (∀ w', Calls Try.prog 33 #[.agg (u8s (id ++ sd)).toArray, .int .i64 q0] w' fun e w'' => e = .returned (.agg (u8s (cidOf id sd Q ++ csdOf id sd Q)).toArray) ∧ Own w' w'' []) := fun w' => rchild_any w' id sd h16 h32 hid hsd q0 Q hQ
  have eA : ∀ w, (Op.equalIn 10000 30 (.agg (u8s (cidOf id sd P ++ csdOf id sd P)).toArray) (.agg (u8s (cidOf id sd P ++ csdOf id sd P)).toArray)).run Try.prog w = .ok true w := fun w => by
    rw [eqSecret w _ _ _ _ (length_cidOf id sd P) (length_csdOf id sd P) (length_cidOf id sd P) (length_csdOf id sd P)]; simp
  have eB : ∀ w, (Op.equalIn 10000 30 (.agg (u8s (cidOf id sd Q ++ csdOf id sd Q)).toArray) (.agg (u8s (cidOf id sd Q ++ csdOf id sd Q)).toArray)).run Try.prog w = .ok true w := fun w => by
    rw [eqSecret w _ _ _ _ (length_cidOf id sd Q) (length_csdOf id sd Q) (length_cidOf id sd Q) (length_csdOf id sd Q)]; simp
  have eE : ∀ w, (Op.equalIn 10000 30 (.agg (u8s (cidOf id sd P ++ csdOf id sd P)).toArray) (.agg (u8s (cidOf id sd Q ++ csdOf id sd Q)).toArray)).run Try.prog w = .ok true w := fun w => by
    rw [eqSecret w _ _ _ _ (length_cidOf id sd P) (length_csdOf id sd P) (length_cidOf id sd Q) (length_csdOf id sd Q), hE]
  have hl1 : Hid ((cidOf id sd P ++ csdOf id sd P).length = 48) := by show _ = _; rw [List.length_append, length_cidOf, length_csdOf]
  have hl2 : Hid ((cidOf id sd Q ++ csdOf id sd Q).length = 48) := by show _ = _; rw [List.length_append, length_cidOf, length_csdOf]
  obtain ⟨LA, hLA⟩ : ∃ L, L = cidOf id sd P ++ csdOf id sd P := ⟨_, rfl⟩
  obtain ⟨LB, hLB⟩ : ∃ L, L = cidOf id sd Q ++ csdOf id sd Q := ⟨_, rfl⟩
  rw [← hLA] at hc1 hr1 hl1
  rw [← hLB] at hc2 hr2 hl2
  simp only [← hLA] at eA eE
  simp only [← hLB] at eB eE
  clear h16 h32 hid hsd hP9 hQ9 hE hLA hLB
  go_enter Try.func9, Try.ntmps9
  have tok1 : True := trivial
  go_wp2_with (first
    | (clear tok1; refine st_new rfl (rn_box (cs := u8s (id ++ sd)) H rfl rfl rfl) ?_; clear H; intro b3 w2 hb3 H; have tok2 : True := trivial))
  have HH := Lib.hid H
  clear H
  have k3 : Hid (∀ w', Own w2 w' [] → ∀ j v, (u8s (id ++ sd))[j]? = some v → w'.cell? ⟨b3, 0 + j, none⟩ = some v) := fun w' h j v hj => by rw [(HH.out.call0 h).cell (.head _), Nat.zero_add]; exact hj
  refine region_grow2 8 (by kernel_rfl) (by kernel_rfl) (by kernel_rfl) [.val (.agg (u8s (id ++ sd)).toArray), .val (.int .i64 p0), .val (.agg (u8s LA).toArray), .val (.agg (u8s (id ++ sd)).toArray), .val (.int .i64 q0), .val (.agg (u8s LB).toArray), .rel (CellN w2.heap.size 48 30), .rel (CellN w2.heap.size 48 30)] rfl 6 7 7 8 (by decide) (by decide) (by decide) rfl rfl (fun i hi o ho => by
    have e : o.guard = none ∧ o.op = .alloc 30 := by
      rcases hi with rfl | rfl
      · cases ho; exact ⟨rfl, rfl⟩
      · cases ho; exact ⟨rfl, rfl⟩
    refine ⟨e.1, fun a' w' => ?_⟩
    obtain ⟨g, w'', h1, h2, h3⟩ := rn_alloc (P := Try.prog) (a := a') (Own.refl w') e.2 (cs := u8s (List.replicate 48 0)) (by kernel_rfl)
    exact ⟨g, w'', h1, h2, h3.lt (.head _)⟩) ?_
  have tok3 : True := trivial
  try go_frame
  repeat (first
    | (clear tok3; refine sp_run (v := .agg (u8s (id ++ sd)).toArray) rfl (fun w' hw' _ => rn_cells rfl rfl rfl rfl hsz48.out (k3.out w' hw')) ?_; try go_frame; have tok4 : True := trivial)
    | (clear tok4; refine sp_callN (v := .agg (u8s LA).toArray) (args := #[.agg (u8s (id ++ sd)).toArray, .int .i64 p0]) rfl rfl (by simp [Act.eval]) Try.func31 (by kernel_rfl) (by kernel_rfl) (fun w' _ _ => hc1.out w') ?_; try go_frame; have tok5 : True := trivial)
    | (clear tok5; refine sp_run (v := .agg (u8s (id ++ sd)).toArray) rfl (fun w' hw' _ => rn_cells rfl rfl rfl rfl hsz48.out (k3.out w' hw')) ?_; try go_frame; have tok6 : True := trivial)
    | (clear tok6; refine sp_callN (v := .agg (u8s LB).toArray) (args := #[.agg (u8s (id ++ sd)).toArray, .int .i64 q0]) rfl rfl (by simp [Act.eval]) Try.func31 (by kernel_rfl) (by kernel_rfl) (fun w' _ _ => hc2.out w') ?_; try go_frame; have tok7 : True := trivial)
    | (clear tok7; refine sp_rel CellN.mono rfl (fun w' hw' _ => cellN_alloc rfl (cs := u8s (List.replicate 48 0)) (by kernel_rfl) (by simp) hw'.size) ?_; intro v7; try go_frame; have tok8 : True := trivial)
    | (clear tok8; refine sp_rel CellN.mono rfl (fun w' hw' _ => cellN_alloc rfl (cs := u8s (List.replicate 48 0)) (by kernel_rfl) (by simp) hw'.size) ?_; intro v8; try go_frame)
    | (refine sp_val (fun w' hw' hF => ?_) ⟨_, rfl, Nat.le_of_ble_eq_true rfl⟩ ?_
       · go_big_quiet_step (fail)
         exact rfl
       try go_frame))
  refine sp_nil ?_
  intro w6 hw' hF hdf
  obtain ⟨g7, c7, e7, q7, n7, r7⟩ := hF.1.2 _ rfl trivial
  obtain ⟨g8, c8, e8, q8, n8, r8⟩ := hF.2 _ rfl trivial
  subst e7 e8
  have hg : g7 ≠ g8 := fun e => by subst e; exact hdf rfl
  have hb3w := HH.out.lt (.head _)
  have hw2 := HH.out.size
  have H := ((HH.out.call0 hw').adopt r8 (by simp; omega)).adopt r7 (by simp; omega)
  have n7' := Lib.hid n7
  have n8' := Lib.hid n8
  clear hF hdf hw' r7 r8 k3 hc1 hc2 n7 n8
  simp only [List.drop_succ_cons, List.drop_zero]
  have tok1 : True := trivial
  go_wp2_with (first
    | (clear tok1; refine st_skip rfl (rn_storeAll (vs := u8s LA) H rfl rfl rfl (by rw [length_ints, hl1.out]; exact size_secret) .head (by rw [length_ints, hl1.out, n7'.out]) (oneCell_ints _ _)) ?_; clear H; intro w7 H; have tok2 : True := trivial)
    | (clear tok2; refine st_skip rfl (rn_storeAll (vs := u8s LB) H rfl rfl rfl (by rw [length_ints, hl2.out]; exact size_secret) (.tail .head) (by rw [length_ints, hl2.out, n8'.out]) (oneCell_ints _ _)) ?_; clear H; intro w8 H; have tok3 : True := trivial))
  have H8 := Lib.hid H
  clear H
  have k7 : Hid (∀ w', Own w8 w' [] → ∀ j v, (u8s LA)[j]? = some v → w'.cell? ⟨g7, 0 + j, none⟩ = some v) := fun w' h j v hj => by rw [(H8.out.call0 h).cell (.head _), Nat.zero_add]; exact hj
  have k8 : Hid (∀ w', Own w8 w' [] → ∀ j v, (u8s LB)[j]? = some v → w'.cell? ⟨g8, 0 + j, none⟩ = some v) := fun w' h j v hj => by rw [(H8.out.call0 h).cell (.tail _ (.head _)), Nat.zero_add]; exact hj
  have k3 : Hid (∀ w', Own w8 w' [] → ∀ j v, (u8s (id ++ sd))[j]? = some v → w'.cell? ⟨b3, 0 + j, none⟩ = some v) := fun w' h j v hj => by rw [(H8.out.call0 h).cell (.tail _ (.tail _ (.head _))), Nat.zero_add]; exact hj
  have sA : Hid ((Try.prog.info? 30).map (·.size) = some (u8s LA).length) := by show _ = _; rw [length_ints, hl1.out]; exact size_secret
  have sB : Hid ((Try.prog.info? 30).map (·.size) = some (u8s LB).length) := by show _ = _; rw [length_ints, hl2.out]; exact size_secret
  refine region_grow 27 (by kernel_rfl) (by kernel_rfl) (by kernel_rfl) [.val (.bool true), .val (.bool true), .val (.agg (u8s LA).toArray), .val (.agg (u8s (id ++ sd)).toArray), .val (.int .i64 p0), .val (.agg (u8s LA).toArray), .val (.bool true), .val (.bool true), .val (.bool true), .val (.agg (u8s LB).toArray), .val (.agg (u8s (id ++ sd)).toArray), .val (.int .i64 q0), .val (.agg (u8s LB).toArray), .val (.bool true), .val (.bool true), .val (.bool true), .val (.agg (u8s LA).toArray), .val (.agg (u8s LB).toArray), .val (.bool true), .val (.bool true), .val undef, .val undef, .val undef, .val undef, .val undef, .val (.bool true), .val (.bool true)] rfl ?_
  have tok3 : True := trivial
  try go_frame
  repeat (first
    | (clear tok3; refine sp_callN (v := .bool true) (args := #[]) rfl rfl (by simp ) Try.func32 (by kernel_rfl) (by kernel_rfl) (fun w' _ _ => hto.out w') ?_; try go_frame; have tok4 : True := trivial)
    | (clear tok4; refine sp_run (v := .agg (u8s LA).toArray) rfl (fun w' hw' _ => rn_cells rfl rfl rfl rfl sA.out (k7.out w' hw')) ?_; try go_frame; have tok5 : True := trivial)
    | (clear tok5; refine sp_run (v := .agg (u8s (id ++ sd)).toArray) rfl (fun w' hw' _ => rn_cells rfl rfl rfl rfl hsz48.out (k3.out w' hw')) ?_; try go_frame; have tok6 : True := trivial)
    | (clear tok6; refine sp_callN (v := .agg (u8s LA).toArray) (args := #[.agg (u8s (id ++ sd)).toArray, .int .i64 p0]) rfl rfl (by simp [Act.eval]) Try.func33 (by kernel_rfl) (by kernel_rfl) (fun w' _ _ => hr1.out w') ?_; try go_frame; have tok7 : True := trivial)
    | (clear tok7; refine sp_run (v := .agg (u8s LB).toArray) rfl (fun w' hw' _ => rn_cells rfl rfl rfl rfl sB.out (k8.out w' hw')) ?_; try go_frame; have tok8 : True := trivial)
    | (clear tok8; refine sp_run (v := .agg (u8s (id ++ sd)).toArray) rfl (fun w' hw' _ => rn_cells rfl rfl rfl rfl hsz48.out (k3.out w' hw')) ?_; try go_frame; have tok9 : True := trivial)
    | (clear tok9; refine sp_callN (v := .agg (u8s LB).toArray) (args := #[.agg (u8s (id ++ sd)).toArray, .int .i64 q0]) rfl rfl (by simp [Act.eval]) Try.func33 (by kernel_rfl) (by kernel_rfl) (fun w' _ _ => hr2.out w') ?_; try go_frame; have tok10 : True := trivial)
    | (clear tok10; refine sp_run (v := .agg (u8s LA).toArray) rfl (fun w' hw' _ => rn_cells rfl rfl rfl rfl sA.out (k7.out w' hw')) ?_; try go_frame; have tok11 : True := trivial)
    | (clear tok11; refine sp_run (v := .agg (u8s LB).toArray) rfl (fun w' hw' _ => rn_cells rfl rfl rfl rfl sB.out (k8.out w' hw')) ?_; try go_frame)
    | (refine sp_skip rfl ?_; try go_frame)
    | (refine sp_val (fun w' hw' hF => ?_) ⟨_, rfl, Nat.le_of_ble_eq_true rfl⟩ ?_
       · go_big_quiet_step (fail)
         first
           | exact rfl
           | (rw [hP]; exact rfl)
           | (rw [hQ]; exact rfl)
       try go_frame))
  refine sp_nil ?_
  intro w9 hw' hF
  have HE := Lib.hid ((H8.out.call0 hw').end0 (by simp; omega))
  clear hw' hF k7 k8 k3
  simp only [List.drop_succ_cons, List.drop_zero]
  go_wp2_with fail
  go_ret
  exact ⟨rfl, HE.out⟩
set_option maxRecDepth 100000 in
set_option maxHeartbeats 8000000 in
theorem hssChild_false (w : World) (id sd : List Int) (h16 : id.length = 16) (h32 : sd.length = 32) (hid : IsBytes id) (hsd : IsBytes sd) (p0 q0 : Int) (P Q : Nat) (hP : IntKind.u32.wrap p0 = (P : Int)) (hQ : IntKind.u32.wrap q0 = (Q : Int)) (hP9 : P < 4294967296) (hQ9 : Q < 4294967296)
    (hE : (decide (cidOf id sd P = cidOf id sd Q) && decide (csdOf id sd P = csdOf id sd Q)) = false) :
    Calls Try.prog 9 #[.agg (u8s (id ++ sd)).toArray, .int .i64 p0, .int .i64 q0] w fun e w' => e = .returned (.bool true) ∧ Own w w' [] := by
  have H := Own.refl w
  have hto := Lib.hid htold_any
  have hsz48 := Lib.hid (size_secretL h16 h32)
  have hc1 : Hid (∀ w', Calls Try.prog 31 #[.agg (u8s (id ++ sd)).toArray, .int .i64 p0] w' fun e w'' => e = .returned (.agg (u8s (cidOf id sd P ++ csdOf id sd P)).toArray) ∧ Own w' w'' []) := fun w' => child_any w' id sd h16 h32 p0 P hP9 hP
  have hc2 : Hid (∀ w', Calls Try.prog 31 #[.agg (u8s (id ++ sd)).toArray, .int .i64 q0] w' fun e w'' => e = .returned (.agg (u8s (cidOf id sd Q ++ csdOf id sd Q)).toArray) ∧ Own w' w'' []) := fun w' => child_any w' id sd h16 h32 q0 Q hQ9 hQ
  have hr1 : Hid (∀ w', Calls Try.prog 33 #[.agg (u8s (id ++ sd)).toArray, .int .i64 p0] w' fun e w'' => e = .returned (.agg (u8s (cidOf id sd P ++ csdOf id sd P)).toArray) ∧ Own w' w'' []) := fun w' => rchild_any w' id sd h16 h32 hid hsd p0 P hP
  have hr2 : Hid (∀ w', Calls Try.prog 33 #[.agg (u8s (id ++ sd)).toArray, .int .i64 q0] w' fun e w'' => e = .returned (.agg (u8s (cidOf id sd Q ++ csdOf id sd Q)).toArray) ∧ Own w' w'' []) := fun w' => rchild_any w' id sd h16 h32 hid hsd q0 Q hQ
  have eA : ∀ w, (Op.equalIn 10000 30 (.agg (u8s (cidOf id sd P ++ csdOf id sd P)).toArray) (.agg (u8s (cidOf id sd P ++ csdOf id sd P)).toArray)).run Try.prog w = .ok true w := fun w => by
    rw [eqSecret w _ _ _ _ (length_cidOf id sd P) (length_csdOf id sd P) (length_cidOf id sd P) (length_csdOf id sd P)]; simp
  have eB : ∀ w, (Op.equalIn 10000 30 (.agg (u8s (cidOf id sd Q ++ csdOf id sd Q)).toArray) (.agg (u8s (cidOf id sd Q ++ csdOf id sd Q)).toArray)).run Try.prog w = .ok true w := fun w => by
    rw [eqSecret w _ _ _ _ (length_cidOf id sd Q) (length_csdOf id sd Q) (length_cidOf id sd Q) (length_csdOf id sd Q)]; simp
  have eE : ∀ w, (Op.equalIn 10000 30 (.agg (u8s (cidOf id sd P ++ csdOf id sd P)).toArray) (.agg (u8s (cidOf id sd Q ++ csdOf id sd Q)).toArray)).run Try.prog w = .ok false w := fun w => by
    rw [eqSecret w _ _ _ _ (length_cidOf id sd P) (length_csdOf id sd P) (length_cidOf id sd Q) (length_csdOf id sd Q), hE]
  have hne : P ≠ Q := fun e => by rw [e] at hE; simp at hE
  have hn1 : ((P : Int) == (Q : Int)) = false := by rw [beq_eq_false_iff_ne]; omega
  have hn2 : ((P : Int) != (Q : Int)) = true := by unfold bne; rw [hn1]; rfl
  have hn3 : (P == Q) = false := by simpa using hne
  have hn4 : (P != Q) = true := by simpa using hne
  clear hne
  have hl1 : Hid ((cidOf id sd P ++ csdOf id sd P).length = 48) := by show _ = _; rw [List.length_append, length_cidOf, length_csdOf]
  have hl2 : Hid ((cidOf id sd Q ++ csdOf id sd Q).length = 48) := by show _ = _; rw [List.length_append, length_cidOf, length_csdOf]
  obtain ⟨LA, hLA⟩ : ∃ L, L = cidOf id sd P ++ csdOf id sd P := ⟨_, rfl⟩
  obtain ⟨LB, hLB⟩ : ∃ L, L = cidOf id sd Q ++ csdOf id sd Q := ⟨_, rfl⟩
  rw [← hLA] at hc1 hr1 hl1
  rw [← hLB] at hc2 hr2 hl2
  simp only [← hLA] at eA eE
  simp only [← hLB] at eB eE
  clear h16 h32 hid hsd hP9 hQ9 hE hLA hLB
  go_enter Try.func9, Try.ntmps9
  have tok1 : True := trivial
  go_wp2_with (first
    | (clear tok1; refine st_new rfl (rn_box (cs := u8s (id ++ sd)) H rfl rfl rfl) ?_; clear H; intro b3 w2 hb3 H; have tok2 : True := trivial))
  have HH := Lib.hid H
  clear H
  have k3 : Hid (∀ w', Own w2 w' [] → ∀ j v, (u8s (id ++ sd))[j]? = some v → w'.cell? ⟨b3, 0 + j, none⟩ = some v) := fun w' h j v hj => by rw [(HH.out.call0 h).cell (.head _), Nat.zero_add]; exact hj
  refine region_grow2 8 (by kernel_rfl) (by kernel_rfl) (by kernel_rfl) [.val (.agg (u8s (id ++ sd)).toArray), .val (.int .i64 p0), .val (.agg (u8s LA).toArray), .val (.agg (u8s (id ++ sd)).toArray), .val (.int .i64 q0), .val (.agg (u8s LB).toArray), .rel (CellN w2.heap.size 48 30), .rel (CellN w2.heap.size 48 30)] rfl 6 7 7 8 (by decide) (by decide) (by decide) rfl rfl (fun i hi o ho => by
    have e : o.guard = none ∧ o.op = .alloc 30 := by
      rcases hi with rfl | rfl
      · cases ho; exact ⟨rfl, rfl⟩
      · cases ho; exact ⟨rfl, rfl⟩
    refine ⟨e.1, fun a' w' => ?_⟩
    obtain ⟨g, w'', h1, h2, h3⟩ := rn_alloc (P := Try.prog) (a := a') (Own.refl w') e.2 (cs := u8s (List.replicate 48 0)) (by kernel_rfl)
    exact ⟨g, w'', h1, h2, h3.lt (.head _)⟩) ?_
  have tok3 : True := trivial
  try go_frame
  repeat (first
    | (clear tok3; refine sp_run (v := .agg (u8s (id ++ sd)).toArray) rfl (fun w' hw' _ => rn_cells rfl rfl rfl rfl hsz48.out (k3.out w' hw')) ?_; try go_frame; have tok4 : True := trivial)
    | (clear tok4; refine sp_callN (v := .agg (u8s LA).toArray) (args := #[.agg (u8s (id ++ sd)).toArray, .int .i64 p0]) rfl rfl (by simp [Act.eval]) Try.func31 (by kernel_rfl) (by kernel_rfl) (fun w' _ _ => hc1.out w') ?_; try go_frame; have tok5 : True := trivial)
    | (clear tok5; refine sp_run (v := .agg (u8s (id ++ sd)).toArray) rfl (fun w' hw' _ => rn_cells rfl rfl rfl rfl hsz48.out (k3.out w' hw')) ?_; try go_frame; have tok6 : True := trivial)
    | (clear tok6; refine sp_callN (v := .agg (u8s LB).toArray) (args := #[.agg (u8s (id ++ sd)).toArray, .int .i64 q0]) rfl rfl (by simp [Act.eval]) Try.func31 (by kernel_rfl) (by kernel_rfl) (fun w' _ _ => hc2.out w') ?_; try go_frame; have tok7 : True := trivial)
    | (clear tok7; refine sp_rel CellN.mono rfl (fun w' hw' _ => cellN_alloc rfl (cs := u8s (List.replicate 48 0)) (by kernel_rfl) (by simp) hw'.size) ?_; intro v7; try go_frame; have tok8 : True := trivial)
    | (clear tok8; refine sp_rel CellN.mono rfl (fun w' hw' _ => cellN_alloc rfl (cs := u8s (List.replicate 48 0)) (by kernel_rfl) (by simp) hw'.size) ?_; intro v8; try go_frame)
    | (refine sp_val (fun w' hw' hF => ?_) ⟨_, rfl, Nat.le_of_ble_eq_true rfl⟩ ?_
       · go_big_quiet_step (fail)
         exact rfl
       try go_frame))
  refine sp_nil ?_
  intro w6 hw' hF hdf
  obtain ⟨g7, c7, e7, q7, n7, r7⟩ := hF.1.2 _ rfl trivial
  obtain ⟨g8, c8, e8, q8, n8, r8⟩ := hF.2 _ rfl trivial
  subst e7 e8
  have hg : g7 ≠ g8 := fun e => by subst e; exact hdf rfl
  have hb3w := HH.out.lt (.head _)
  have hw2 := HH.out.size
  have H := ((HH.out.call0 hw').adopt r8 (by simp; omega)).adopt r7 (by simp; omega)
  have n7' := Lib.hid n7
  have n8' := Lib.hid n8
  clear hF hdf hw' r7 r8 k3 hc1 hc2 n7 n8
  simp only [List.drop_succ_cons, List.drop_zero]
  have tok1 : True := trivial
  go_wp2_with (first
    | (clear tok1; refine st_skip rfl (rn_storeAll (vs := u8s LA) H rfl rfl rfl (by rw [length_ints, hl1.out]; exact size_secret) .head (by rw [length_ints, hl1.out, n7'.out]) (oneCell_ints _ _)) ?_; clear H; intro w7 H; have tok2 : True := trivial)
    | (clear tok2; refine st_skip rfl (rn_storeAll (vs := u8s LB) H rfl rfl rfl (by rw [length_ints, hl2.out]; exact size_secret) (.tail .head) (by rw [length_ints, hl2.out, n8'.out]) (oneCell_ints _ _)) ?_; clear H; intro w8 H; have tok3 : True := trivial))
  have H8 := Lib.hid H
  clear H
  have k7 : Hid (∀ w', Own w8 w' [] → ∀ j v, (u8s LA)[j]? = some v → w'.cell? ⟨g7, 0 + j, none⟩ = some v) := fun w' h j v hj => by rw [(H8.out.call0 h).cell (.head _), Nat.zero_add]; exact hj
  have k8 : Hid (∀ w', Own w8 w' [] → ∀ j v, (u8s LB)[j]? = some v → w'.cell? ⟨g8, 0 + j, none⟩ = some v) := fun w' h j v hj => by rw [(H8.out.call0 h).cell (.tail _ (.head _)), Nat.zero_add]; exact hj
  have k3 : Hid (∀ w', Own w8 w' [] → ∀ j v, (u8s (id ++ sd))[j]? = some v → w'.cell? ⟨b3, 0 + j, none⟩ = some v) := fun w' h j v hj => by rw [(H8.out.call0 h).cell (.tail _ (.tail _ (.head _))), Nat.zero_add]; exact hj
  have sA : Hid ((Try.prog.info? 30).map (·.size) = some (u8s LA).length) := by show _ = _; rw [length_ints, hl1.out]; exact size_secret
  have sB : Hid ((Try.prog.info? 30).map (·.size) = some (u8s LB).length) := by show _ = _; rw [length_ints, hl2.out]; exact size_secret
  refine region_grow 27 (by kernel_rfl) (by kernel_rfl) (by kernel_rfl) [.val (.bool true), .val (.bool true), .val (.agg (u8s LA).toArray), .val (.agg (u8s (id ++ sd)).toArray), .val (.int .i64 p0), .val (.agg (u8s LA).toArray), .val (.bool true), .val (.bool true), .val (.bool true), .val (.agg (u8s LB).toArray), .val (.agg (u8s (id ++ sd)).toArray), .val (.int .i64 q0), .val (.agg (u8s LB).toArray), .val (.bool true), .val (.bool true), .val (.bool true), .val (.agg (u8s LA).toArray), .val (.agg (u8s LB).toArray), .val (.bool false), .val (.bool false), .val (.int .i64 p0), .val (.int .u32 (P : Int)), .val (.int .i64 q0), .val (.int .u32 (Q : Int)), .val (.bool true), .val (.bool true), .val (.bool true)] rfl ?_
  have tok3 : True := trivial
  try go_frame
  repeat (first
    | (clear tok3; refine sp_callN (v := .bool true) (args := #[]) rfl rfl (by simp ) Try.func32 (by kernel_rfl) (by kernel_rfl) (fun w' _ _ => hto.out w') ?_; try go_frame; have tok4 : True := trivial)
    | (clear tok4; refine sp_run (v := .agg (u8s LA).toArray) rfl (fun w' hw' _ => rn_cells rfl rfl rfl rfl sA.out (k7.out w' hw')) ?_; try go_frame; have tok5 : True := trivial)
    | (clear tok5; refine sp_run (v := .agg (u8s (id ++ sd)).toArray) rfl (fun w' hw' _ => rn_cells rfl rfl rfl rfl hsz48.out (k3.out w' hw')) ?_; try go_frame; have tok6 : True := trivial)
    | (clear tok6; refine sp_callN (v := .agg (u8s LA).toArray) (args := #[.agg (u8s (id ++ sd)).toArray, .int .i64 p0]) rfl rfl (by simp [Act.eval]) Try.func33 (by kernel_rfl) (by kernel_rfl) (fun w' _ _ => hr1.out w') ?_; try go_frame; have tok7 : True := trivial)
    | (clear tok7; refine sp_run (v := .agg (u8s LB).toArray) rfl (fun w' hw' _ => rn_cells rfl rfl rfl rfl sB.out (k8.out w' hw')) ?_; try go_frame; have tok8 : True := trivial)
    | (clear tok8; refine sp_run (v := .agg (u8s (id ++ sd)).toArray) rfl (fun w' hw' _ => rn_cells rfl rfl rfl rfl hsz48.out (k3.out w' hw')) ?_; try go_frame; have tok9 : True := trivial)
    | (clear tok9; refine sp_callN (v := .agg (u8s LB).toArray) (args := #[.agg (u8s (id ++ sd)).toArray, .int .i64 q0]) rfl rfl (by simp [Act.eval]) Try.func33 (by kernel_rfl) (by kernel_rfl) (fun w' _ _ => hr2.out w') ?_; try go_frame; have tok10 : True := trivial)
    | (clear tok10; refine sp_run (v := .agg (u8s LA).toArray) rfl (fun w' hw' _ => rn_cells rfl rfl rfl rfl sA.out (k7.out w' hw')) ?_; try go_frame; have tok11 : True := trivial)
    | (clear tok11; refine sp_run (v := .agg (u8s LB).toArray) rfl (fun w' hw' _ => rn_cells rfl rfl rfl rfl sB.out (k8.out w' hw')) ?_; try go_frame)
    | (refine sp_skip rfl ?_; try go_frame)
    | (refine sp_val (fun w' hw' hF => ?_) ⟨_, rfl, Nat.le_of_ble_eq_true rfl⟩ ?_
       · go_big_quiet_step (fail)
         first
           | exact rfl
           | (rw [hP]; exact rfl)
           | (rw [hQ]; exact rfl)
       try go_frame))
  refine sp_nil ?_
  intro w9 hw' hF
  have HE := Lib.hid ((H8.out.call0 hw').end0 (by simp; omega))
  clear hw' hF k7 k8 k3
  simp only [List.drop_succ_cons, List.drop_zero]
  go_wp2_with fail
  go_ret
  exact ⟨rfl, HE.out⟩
theorem hssChild_row (w : World) (ss : List Int) (h48 : ss.length = 48) (hsb : ∀ i, i < ss.length → 0 ≤ ss[i]?.getD 0 ∧ ss[i]?.getD 0 < 256) (p0 : Int) (_ : IntKind.i64.min ≤ p0) (_ : p0 ≤ IntKind.i64.max) (q0 : Int) (_ : IntKind.i64.min ≤ q0) (_ : q0 ≤ IntKind.i64.max) :
    Calls Try.prog 9 #[.agg (u8s ss).toArray, .int .i64 p0, .int .i64 q0] w fun e w' => e = .returned (.bool true) ∧ Own w w' [] := by
  obtain ⟨id, seed, rfl, h16, h32⟩ := split48 h48
  have hidb : IsBytes id := isBytes_left hsb
  have hsdb : IsBytes seed := isBytes_mem.2 fun x hx => isBytes_mem.1 hsb x (List.mem_append_right _ hx)
  have hp := wrap32 p0
  have hq := wrap32 q0
  have hP : IntKind.u32.wrap p0 = (((p0 % 4294967296).toNat : Nat) : Int) := by rw [hp]; omega
  have hQ : IntKind.u32.wrap q0 = (((q0 % 4294967296).toNat : Nat) : Int) := by rw [hq]; omega
  have hP9 : (p0 % 4294967296).toNat < 4294967296 := by omega
  have hQ9 : (q0 % 4294967296).toNat < 4294967296 := by omega
  generalize (p0 % 4294967296).toNat = P at hP hP9
  generalize (q0 % 4294967296).toNat = Q at hQ hQ9
  cases hE : (decide (cidOf id seed P = cidOf id seed Q) && decide (csdOf id seed P = csdOf id seed Q)) with
  | true => exact hssChild_true w id seed h16 h32 hidb hsdb p0 q0 P Q hP hQ hP9 hQ9 hE
  | false => exact hssChild_false w id seed h16 h32 hidb hsdb p0 q0 P Q hP hQ hP9 hQ9 hE

end Go.Proofs.Ytfihlmnbonnekaa
