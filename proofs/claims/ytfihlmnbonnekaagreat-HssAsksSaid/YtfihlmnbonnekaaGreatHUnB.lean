/- hss: what makes the tree below a leaf. -/
import Derived.Test.YtfihlmnbonnekaaGreatHUnA
namespace Go.Proofs.YtfihlmnbonnekaaGreat
open Go.RowKit
set_option maxHeartbeats 32000000
set_option linter.unusedVariables false
set_option maxRecDepth 100000 in
theorem under1_any (w : World) (kb tb b2 b3 b5 : Nat) (q : Nat) (hq : q < 32) (l : Int) (id sd : List Int) (h16 : id.length = 16) (h32 : sd.length = 32) (k : Nat) (hk : k = 1 ∨ k = 2 ∨ k = 4 ∨ k = 8) (ss : List Int) (hss : ss = id ++ sd) (cs : List Value) (hcs : IsTree id sd k cs) {n : Nat} (hn : n = sizeOfL k)
 (H0 : Own w w [(kb, keyR ss k l (.pointer (some ⟨tb, 0, none⟩)) q (.int .u32 0) (.int .i32 1) (.pointer none) (.slice none 0 0) (.slice none 0 0), 98), (tb, cs, 74), (b2, [.pointer (some ⟨kb, 0, none⟩)], 51), (b3, [.int .i64 q], 3), (b5, [.pointer (some ⟨kb, 51 + 6 * q, none⟩)], 102)]) :
 Calls Tryz.prog 84 #[.pointer (some ⟨b2, 0, none⟩), .pointer (some ⟨b3, 0, none⟩), .pointer (some ⟨b5, 0, none⟩)] w fun e w' => e = .returned (.tuple #[]) ∧ ∃ lt pv sv, TreeAt w' lt (cidOf id sd q) (csdOf id sd q) k ∧ NewB w.heap.size 56 (pubL (cidOf id sd q) (csdOf id sd q) k) w' pv ∧ NewB w.heap.size n (lsigOf id sd k q (pubL (cidOf id sd q) (csdOf id sd q) k)) w' sv ∧ w.heap.size ≤ lt ∧ Own w w' [(kb, keyR ss k l (.pointer (some ⟨tb, 0, none⟩)) q (.int .u32 0) (.int .i32 1) (.pointer (some ⟨lt, 0, none⟩)) pv sv, 98), (tb, (fullT id sd k), 74), (b2, [.pointer (some ⟨kb, 0, none⟩)], 51), (b3, [.int .i64 q], 3), (b5, [.pointer (some ⟨kb, 51 + 6 * q, none⟩)], 102)] := by
 have h48 : ss.length = 48 := by rw [hss, List.length_append, h16, h32]
 have hc16 := length_cidOf id sd q
 have hc32 := length_csdOf id sd q
 have hsz48 : Hid ((Tryz.prog.info? 26).map (·.size) = some (u8s ss).length) := by rw [hss]; exact size_secretL h16 h32
 have hch : Hid (∀ w', Calls Tryz.prog 85 #[.agg (u8s ss).toArray, .int .i64 q] w' fun e w'' => e = .returned (.agg (u8s (cidOf id sd q ++ csdOf id sd q)).toArray) ∧ Own w' w'' []) := fun w' => by
  rw [hss]
  exact child_any w' id sd h16 h32 q q (by omega) (by simp only [IntKind.wrap, IntKind.bits, IntKind.signed]; simp; omega)
 have hnw : Hid (∀ w', w.heap.size ≤ w'.heap.size → Calls Tryz.prog 9 #[.agg (u8s (cidOf id sd q ++ csdOf id sd q)).toArray, .int .i64 k] w' fun e w'' => ∃ v, e = .returned v ∧ NewT w.heap.size (treeG (cidOf id sd q ++ csdOf id sd q) k 0 0 (List.replicate 2048 0) 0) w'' v ∧ Own w' w'' []) := fun w' hw => (lnew_any w' _ (by rw [List.length_append, hc16, hc32]) k hk).mono fun _ _ ⟨b, h1, h2, h3⟩ => ⟨_, h1, ⟨b, rfl, Nat.le_trans hw h2, h3.here _ _ _ (.head _)⟩, h3.end0 (by simpa using h2)⟩
 have hpu : Hid (∀ w' b, w'.heap[b]? = some (.cells (treeG (cidOf id sd q ++ csdOf id sd q) k 0 0 (List.replicate 2048 0) 0).toArray 74 (0, 0)) → Calls Tryz.prog 12 #[.pointer (some ⟨b, 0, none⟩)] w' fun e w'' => ∃ v, e = .returned v ∧ NewB w'.heap.size 56 (pubL (cidOf id sd q) (csdOf id sd q) k) w'' v ∧ Own w' w'' [(b, fullT (cidOf id sd q) (csdOf id sd q) k, 74)]) := fun w' b h => (lpubB_any w' b _ _ hc16 hc32 k hk _ (Or.inl rfl) (Own.one h)).mono fun _ _ ⟨p, c, h1, h2, h3⟩ => ⟨_, h1, ⟨p, c, rfl, h2.toS (by rw [length_pubL hc16]; omega), h2.new⟩, h3⟩
 have hsg : Hid (∀ w' mv, Own w' w' [(tb, cs, 74)] → Old w' mv (pubL (cidOf id sd q) (csdOf id sd q) k) → (∀ k, blk mv = some k → k ≠ tb) → Calls Tryz.prog 15 #[.pointer (some ⟨tb, 0, none⟩), .int .i64 q, mv] w' fun e w'' => ∃ v, e = .returned v ∧ NewBT w'.heap.size n (lsigOf id sd k q (pubL (cidOf id sd q) (csdOf id sd q) k)) w'' v ∧ Own w' w'' [(tb, fullT id sd k, 74)]) := fun w' mv h1 h2 h3 => (lsignB_any w' tb id sd h16 h32 k hk cs hcs q hq mv _ h2 (isBytes_pubL (isBytes_cidOf id sd q) _ k) (by rw [length_pubL hc16]; omega) h1 h3 hn).mono fun _ _ ⟨p, c, g1, g2, g3⟩ => ⟨_, g1, ⟨p, c, rfl, g2.toS (by rw [length_lsigOf]; unfold sizeOfL; omega), g2.new⟩, g3⟩
 obtain ⟨CS, hCS⟩ : ∃ x, x = cidOf id sd q ++ csdOf id sd q := ⟨_, rfl⟩
 obtain ⟨PB, hPB⟩ : ∃ x, x = pubL (cidOf id sd q) (csdOf id sd q) k := ⟨_, rfl⟩
 have hTA : Hid (∀ w' b, w'.heap[b]? = some (.cells (fullT (cidOf id sd q) (csdOf id sd q) k).toArray 74 (0, 0)) → TreeAt w' b (cidOf id sd q) (csdOf id sd q) k) := fun w' b h => h
 obtain ⟨FL, hFL⟩ : ∃ x, x = fullT (cidOf id sd q) (csdOf id sd q) k := ⟨_, rfl⟩
 obtain ⟨FT, hFT⟩ : ∃ x, x = fullT id sd k := ⟨_, rfl⟩
 rw [← hCS] at hch hnw hpu
 rw [← hPB] at hpu hsg ⊢
 rw [← hFL] at hpu hTA
 rw [← hFT] at hsg ⊢
 obtain ⟨TN, hTN⟩ : ∃ x, x = treeG CS k 0 0 (List.replicate 2048 0) 0 := ⟨_, rfl⟩
 rw [← hTN] at hnw hpu
 obtain ⟨SG, hSG⟩ : ∃ x, x = lsigOf id sd k q PB := ⟨_, rfl⟩
 rw [← hSG] at hsg ⊢
 have hks := fun (x y tr pb sg : Value) (j : Nat) (v : Value) (hj : (u8s ss)[j]? = some v) => keyR_s (ss := ss) (k := (k : Int)) (l := l) (t := .pointer (some ⟨tb, 0, none⟩)) (q := q) (x := x) (y := y) (tr := tr) (pb := pb) (sg := sg) hj
 have hks := Hh hks
 have hkk := Hh (fun (x y tr pb sg : Value) => keyR_k (k := (k : Int)) (l := l) (t := .pointer (some ⟨tb, 0, none⟩)) (q := q) (x := x) (y := y) (tr := tr) (pb := pb) (sg := sg) h48)
 have hka := Hh (fun (x y tr pb sg : Value) => keyR_at (k := (k : Int)) (l := l) (t := .pointer (some ⟨tb, 0, none⟩)) (q := q) (x := x) (y := y) (tr := tr) (pb := pb) (sg := sg) h48)
 have hkt := Hh (fun (x y tr pb sg v : Value) => keyR_set (k := (k : Int)) (l := l) (t := .pointer (some ⟨tb, 0, none⟩)) (q := q) (x := x) (y := y) (tr := tr) (pb := pb) (sg := sg) (v := v) h48)
 have hkl := Hh (fun (x y tr pb sg : Value) => keyR_len (k := (k : Int)) (l := l) (t := .pointer (some ⟨tb, 0, none⟩)) (q := q) (x := x) (y := y) (tr := tr) (pb := pb) (sg := sg) h48 hq)
 have hkb := H0.lt (.head _)
 have htb := H0.lt (.tail _ (.head _))
 have hb2 := H0.lt (.tail _ (.tail _ (.head _)))
 have hb3 := H0.lt (.tail _ (.tail _ (.tail _ (.head _))))
 have hb5 := H0.lt (.tail _ (.tail _ (.tail _ (.tail _ (.head _)))))
 have H0' := Hh H0
 clear hcs hCS hPB hFL hFT hTN hSG H0 h16 h32 hss h48 hc16 hc32 hk hn
 go_enter Tryz.func84, Tryz.ntmps84
 go_wp2_with fail
 obtain ⟨St, hSt⟩ : ∃ St : Nat → World → Prop, St = fun s w' => (match s with
  | 0 => Own w w' [(kb, keyR ss k l (.pointer (some ⟨tb, 0, none⟩)) q (.int .u32 0) (.int .i32 1) (.pointer none) (.slice none 0 0) (.slice none 0 0), 98), (tb, cs, 74), (b2, [.pointer (some ⟨kb, 0, none⟩)], 51), (b3, [.int .i64 q], 3), (b5, [.pointer (some ⟨kb, 51 + 6 * q, none⟩)], 102)]
  | _ => ∃ lt, w.heap.size ≤ lt ∧ w'.heap[lt]? = some (.cells TN.toArray 74 (0, 0)) ∧ Own w w' [(kb, keyR ss k l (.pointer (some ⟨tb, 0, none⟩)) q (.int .u32 0) (.int .i32 1) (.pointer (some ⟨lt, 0, none⟩)) (.slice none 0 0) (.slice none 0 0), 98), (tb, cs, 74), (b2, [.pointer (some ⟨kb, 0, none⟩)], 51), (b3, [.int .i64 q], 3), (b5, [.pointer (some ⟨kb, 51 + 6 * q, none⟩)], 102)]) := ⟨_, rfl⟩
 have hS0 : Hid (∀ w', St 0 w' ↔ Own w w' [(kb, keyR ss k l (.pointer (some ⟨tb, 0, none⟩)) q (.int .u32 0) (.int .i32 1) (.pointer none) (.slice none 0 0) (.slice none 0 0), 98), (tb, cs, 74), (b2, [.pointer (some ⟨kb, 0, none⟩)], 51), (b3, [.int .i64 q], 3), (b5, [.pointer (some ⟨kb, 51 + 6 * q, none⟩)], 102)]) := fun w' => by rw [hSt]; exact Iff.rfl
 have hS1 : Hid (∀ w', St 1 w' ↔ ∃ lt, w.heap.size ≤ lt ∧ w'.heap[lt]? = some (.cells TN.toArray 74 (0, 0)) ∧ Own w w' [(kb, keyR ss k l (.pointer (some ⟨tb, 0, none⟩)) q (.int .u32 0) (.int .i32 1) (.pointer (some ⟨lt, 0, none⟩)) (.slice none 0 0) (.slice none 0 0), 98), (tb, cs, 74), (b2, [.pointer (some ⟨kb, 0, none⟩)], 51), (b3, [.int .i64 q], 3), (b5, [.pointer (some ⟨kb, 51 + 6 * q, none⟩)], 102)]) := fun w' => by rw [hSt]; exact Iff.rfl
 have hSa : Hid (∀ w', (∃ s, St s w') → ∃ tr, Own w w' [(kb, keyR ss k l (.pointer (some ⟨tb, 0, none⟩)) q (.int .u32 0) (.int .i32 1) tr (.slice none 0 0) (.slice none 0 0), 98), (tb, cs, 74), (b2, [.pointer (some ⟨kb, 0, none⟩)], 51), (b3, [.int .i64 q], 3), (b5, [.pointer (some ⟨kb, 51 + 6 * q, none⟩)], 102)]) := fun w' ⟨s, h⟩ => by
  rw [hSt] at h
  match s, h with
  | 0, h => exact ⟨_, h⟩
  | s + 1, ⟨lt, _, _, h⟩ => exact ⟨_, h⟩
 have hSm : Hid (∀ s w1 w2, St s w1 → Own w1 w2 [] → St s w2) := fun s w1 w3 h1 h2 => by
  rw [hSt] at h1 ⊢
  match s, h1 with
  | 0, h1 => exact h1.call0 h2
  | s + 1, ⟨lt, g1, g2, h1⟩ => exact ⟨lt, g1, heap_mv0 h2 g2, h1.call0 h2⟩
 clear hSt
 have c5 : Hid (∀ w', (∃ s, St s w') → w'.cell? ⟨b5, 0, none⟩ = some (.pointer (some ⟨kb, 51 + 6 * q, none⟩))) := fun w' h => by obtain ⟨tr, h⟩ := hSa.out w' h; exact h.cell (.tail _ (.tail _ (.tail _ (.tail _ (.head _))))) 0
 have c2 : Hid (∀ w', (∃ s, St s w') → w'.cell? ⟨b2, 0, none⟩ = some (.pointer (some ⟨kb, 0, none⟩))) := fun w' h => by obtain ⟨tr, h⟩ := hSa.out w' h; exact h.cell (.tail _ (.tail _ (.head _))) 0
 have c3 : Hid (∀ w', (∃ s, St s w') → w'.cell? ⟨b3, 0, none⟩ = some (.int .i64 q)) := fun w' h => by obtain ⟨tr, h⟩ := hSa.out w' h; exact h.cell (.tail _ (.tail _ (.tail _ (.head _)))) 0
 have cS : Hid (∀ w', (∃ s, St s w') → ∀ j v, (u8s ss)[j]? = some v → w'.cell? ⟨kb, 0 + j, none⟩ = some v) := fun w' h j v hj => by obtain ⟨tr, h⟩ := hSa.out w' h; rw [h.cell (.head _), Nat.zero_add]; exact hks.out _ _ _ _ _ j v hj
 have cK : Hid (∀ w', (∃ s, St s w') → w'.cell? ⟨kb, 48, none⟩ = some (.int .i64 k)) := fun w' h => by obtain ⟨tr, h⟩ := hSa.out w' h; rw [h.cell (.head _)]; exact (hkk.out _ _ _ _ _).1
 have cB : Hid (∀ w', (∃ s, St s w') → w.heap.size ≤ w'.heap.size) := fun w' h => by obtain ⟨tr, h⟩ := hSa.out w' h; exact h.size
 refine region_eff 18 (by kernel_rfl) (by kernel_rfl) (by kernel_rfl) [.val (.pointer (some ⟨kb, 51 + 6 * q, none⟩)), .val (.pointer (some ⟨kb, 0, none⟩)), .val (.pointer (some ⟨kb, 0, none⟩)), .val (.pointer (some ⟨kb, 0, none⟩)), .val (.agg (u8s ss).toArray), .val (.int .i64 q), .val (.agg (u8s CS).toArray), .val (.pointer (some ⟨kb, 0, none⟩)), .val (.pointer (some ⟨kb, 0, none⟩)), .val (.pointer (some ⟨kb, 48, none⟩)), .val (.int .i64 k), .rel (NewT w.heap.size TN), .rel (NewT w.heap.size TN), .rel (NewTP w.heap.size TN), .val (.int .i64 0), .val (.pointer (some ⟨kb, 51 + 6 * q, none⟩)), .val (.pointer (some ⟨kb, 51 + 6 * q + 3, none⟩)), .eff (fun w3 w4 => ∃ cs, Own w3 w4 [(kb, cs, 98)]) (fun _ _ => True)] rfl ?_ (by kernel_rfl) St ((hS0.out _).2 H0'.out) hSm.out ?_
 · simp only [eAll, eRow, Se.pres, or_true, true_and, and_true, implies_true]
   exact ⟨Or.inr (Or.inr (NewT.pres hkb)), Or.inr (Or.inr (NewT.pres hkb)), Or.inr (Or.inr (NewTP.pres hkb))⟩
 have z3 := tt
 try go_frame
 repeat (first
  | (clear z3; refine se_run (v := .pointer (some ⟨kb, 51 + 6 * q, none⟩)) rfl (fun w' hw' _ => rn_cell rfl rfl rfl rfl (c5.out w' hw')) ?_; try go_frame; have z4 := tt)
  | (clear z4; refine se_run (v := .pointer (some ⟨kb, 0, none⟩)) rfl (fun w' hw' _ => rn_cell rfl rfl rfl rfl (c2.out w' hw')) ?_; try go_frame; have z5 := tt)
  | (clear z5; refine se_run (v := .agg (u8s ss).toArray) rfl (fun w' hw' _ => rn_cells rfl rfl rfl rfl hsz48.out (cS.out w' hw')) ?_; try go_frame; have z6 := tt)
  | (clear z6; refine se_run (v := .int .i64 q) rfl (fun w' hw' _ => rn_cell rfl rfl rfl rfl (c3.out w' hw')) ?_; try go_frame; have z7 := tt)
  | (clear z7; refine se_callN (v := .agg (u8s CS).toArray) (args := #[.agg (u8s ss).toArray, .int .i64 q]) rfl rfl (by simp [Act.eval]) Tryz.func85 (by kernel_rfl) (by kernel_rfl) (fun w' _ _ => hch.out w') ?_; try go_frame; have z8 := tt)
  | (clear z8; refine se_run (v := .pointer (some ⟨kb, 0, none⟩)) rfl (fun w' hw' _ => rn_cell rfl rfl rfl rfl (c2.out w' hw')) ?_; try go_frame; have z9 := tt)
  | (clear z9; refine se_run (v := .int .i64 k) rfl (fun w' hw' _ => rn_cell rfl rfl rfl rfl (cK.out w' hw')) ?_; try go_frame; have z10 := tt)
  | (clear z10; refine se_callR (args := #[.agg (u8s CS).toArray, .int .i64 k]) NewT.mono rfl rfl (by simp [Act.eval]) Tryz.func9 (by kernel_rfl) (by kernel_rfl) (fun w' hw' _ => hnw.out w' (cB.out w' hw')) ?_; intro v15; try go_frame; have z11 := tt)
  | (clear z11; refine se_rel NewT.mono rfl (fun w' hw' hF => yieldsTo_val' (rn_move rfl rfl) ⟨Own.refl _, (hF.2 _ rfl (mE (by kernel_rfl)))⟩) ?_; intro v3; try go_frame; have z12 := tt)
  | (clear z12; refine se_rel NewTP.mono rfl (fun w' hw' hF => ?_) ?_
     · obtain ⟨lt, e1, e2⟩ := (hF.2 _ rfl (mE (by kernel_rfl)))
       exact yieldsTo_val' (rn_extract rfl e1 rfl) ⟨Own.refl _, lt, rfl, e2⟩
     intro v16; try go_frame; have z13 := tt)
  | (clear z13; refine se_run (v := .int .i64 0) rfl (fun w' hw' hF => ?_) ?_
     · obtain ⟨lt, e1, e2⟩ := (hF.1.2 _ rfl (mE (by kernel_rfl)))
       exact rn_extract rfl e1 rfl
     try go_frame; have z14 := tt)
  | (clear z14; refine se_store rfl rfl (fun w' hS hF => ?_) ?_
     · have hO := (hS0.out w').1 hS
       obtain ⟨lt, e1, e2, e3⟩ := (hF.2 _ rfl (mE (by kernel_rfl)))
       subst e1
       exact (rn_store (v := .pointer (some ⟨lt, 0, none⟩)) (b := kb) (i := 51 + 6 * q + 3) (hO.sub1 (.head _)) rfl rfl rfl (by kernel_rfl) .head (by rw [hkl.out]; omega) rfl).imp fun w'' h => by
          have g2 := h.2
          rw [hkt.out] at g2
          exact ⟨h.1, ⟨_, g2⟩, (hS1.out w'').2 ⟨lt, e2, heap_mv1 g2 (by omega) e3, Own.next (L := [_]) hO g2 rfl⟩⟩
     try go_frame)
  | (refine se_val (fun w' hw' hF => ?_) ⟨_, rfl, nB rfl⟩ ?_
     · go_big_quiet_step (fail)
       exact rfl
     try go_frame))
 refine se_nil ?_
 intro w5 hS hF
 obtain ⟨lt, hlt, hlc, HA⟩ := (hS1.out w5).1 hS
 have HA' := Hh HA
 have hlc' := Hh hlc
 clear hS hF HA hlc hS0 hS1 hSa hSm c5 c2 c3 cS cK cB H0'
 simp only [List.drop_succ_cons, List.drop_zero]
 go_wp2_with fail
 have hne : lt ∉ ([(kb, keyR ss k l (.pointer (some ⟨tb, 0, none⟩)) q (.int .u32 0) (.int .i32 1) (.pointer (some ⟨lt, 0, none⟩)) (.slice none 0 0) (.slice none 0 0), 98), (tb, cs, 74), (b2, [.pointer (some ⟨kb, 0, none⟩)], 51), (b3, [.int .i64 q], 3), (b5, [.pointer (some ⟨kb, 51 + 6 * q, none⟩)], 102)] : List Ent).map (·.1) := by simp; omega
 have HA := Own.adopt HA'.out hlc'.out hne
 have HB := Hh HA
 clear HA HA' hlc' hne St
 obtain ⟨St, hSt⟩ : ∃ St : Nat → World → Prop, St = fun s w' => (match s with
  | 0 => Own w w' ((lt, TN, 74) :: [(kb, keyR ss k l (.pointer (some ⟨tb, 0, none⟩)) q (.int .u32 0) (.int .i32 1) (.pointer (some ⟨lt, 0, none⟩)) (.slice none 0 0) (.slice none 0 0), 98), (tb, cs, 74), (b2, [.pointer (some ⟨kb, 0, none⟩)], 51), (b3, [.int .i64 q], 3), (b5, [.pointer (some ⟨kb, 51 + 6 * q, none⟩)], 102)])
  | 1 => Own w w' ((lt, FL, 74) :: [(kb, keyR ss k l (.pointer (some ⟨tb, 0, none⟩)) q (.int .u32 0) (.int .i32 1) (.pointer (some ⟨lt, 0, none⟩)) (.slice none 0 0) (.slice none 0 0), 98), (tb, cs, 74), (b2, [.pointer (some ⟨kb, 0, none⟩)], 51), (b3, [.int .i64 q], 3), (b5, [.pointer (some ⟨kb, 51 + 6 * q, none⟩)], 102)])
  | _ => ∃ pv, NewB w.heap.size 56 PB w' pv ∧ Own w w' ((lt, FL, 74) :: [(kb, keyR ss k l (.pointer (some ⟨tb, 0, none⟩)) q (.int .u32 0) (.int .i32 1) (.pointer (some ⟨lt, 0, none⟩)) pv (.slice none 0 0), 98), (tb, cs, 74), (b2, [.pointer (some ⟨kb, 0, none⟩)], 51), (b3, [.int .i64 q], 3), (b5, [.pointer (some ⟨kb, 51 + 6 * q, none⟩)], 102)])) := ⟨_, rfl⟩
 have hS0 : Hid (∀ w', St 0 w' ↔ Own w w' ((lt, TN, 74) :: [(kb, keyR ss k l (.pointer (some ⟨tb, 0, none⟩)) q (.int .u32 0) (.int .i32 1) (.pointer (some ⟨lt, 0, none⟩)) (.slice none 0 0) (.slice none 0 0), 98), (tb, cs, 74), (b2, [.pointer (some ⟨kb, 0, none⟩)], 51), (b3, [.int .i64 q], 3), (b5, [.pointer (some ⟨kb, 51 + 6 * q, none⟩)], 102)])) := fun w' => by rw [hSt]; exact Iff.rfl
 have hS1 : Hid (∀ w', St 1 w' ↔ Own w w' ((lt, FL, 74) :: [(kb, keyR ss k l (.pointer (some ⟨tb, 0, none⟩)) q (.int .u32 0) (.int .i32 1) (.pointer (some ⟨lt, 0, none⟩)) (.slice none 0 0) (.slice none 0 0), 98), (tb, cs, 74), (b2, [.pointer (some ⟨kb, 0, none⟩)], 51), (b3, [.int .i64 q], 3), (b5, [.pointer (some ⟨kb, 51 + 6 * q, none⟩)], 102)])) := fun w' => by rw [hSt]; exact Iff.rfl
 have hS2 : Hid (∀ w', St 2 w' ↔ ∃ pv, NewB w.heap.size 56 PB w' pv ∧ Own w w' ((lt, FL, 74) :: [(kb, keyR ss k l (.pointer (some ⟨tb, 0, none⟩)) q (.int .u32 0) (.int .i32 1) (.pointer (some ⟨lt, 0, none⟩)) pv (.slice none 0 0), 98), (tb, cs, 74), (b2, [.pointer (some ⟨kb, 0, none⟩)], 51), (b3, [.int .i64 q], 3), (b5, [.pointer (some ⟨kb, 51 + 6 * q, none⟩)], 102)])) := fun w' => by rw [hSt]; exact Iff.rfl
 have hSa : Hid (∀ w', (∃ s, St s w') → ∃ cl pv, Own w w' ((lt, cl, 74) :: [(kb, keyR ss k l (.pointer (some ⟨tb, 0, none⟩)) q (.int .u32 0) (.int .i32 1) (.pointer (some ⟨lt, 0, none⟩)) pv (.slice none 0 0), 98), (tb, cs, 74), (b2, [.pointer (some ⟨kb, 0, none⟩)], 51), (b3, [.int .i64 q], 3), (b5, [.pointer (some ⟨kb, 51 + 6 * q, none⟩)], 102)])) := fun w' ⟨s, h⟩ => by
  rw [hSt] at h
  match s, h with
  | 0, h => exact ⟨_, _, h⟩
  | 1, h => exact ⟨_, _, h⟩
  | s + 2, ⟨_, _, h⟩ => exact ⟨_, _, h⟩
 have hSm : Hid (∀ s w1 w2, St s w1 → Own w1 w2 [] → St s w2) := fun s w1 w3 h1 h2 => by
  rw [hSt] at h1 ⊢
  match s, h1 with
  | 0, h1 => exact h1.call0 h2
  | 1, h1 => exact h1.call0 h2
  | s + 2, ⟨pv, g1, h1⟩ => exact ⟨pv, NewB.mono _ _ _ h2 g1, h1.call0 h2⟩
 clear hSt
 have c5 : Hid (∀ w', (∃ s, St s w') → w'.cell? ⟨b5, 0, none⟩ = some (.pointer (some ⟨kb, 51 + 6 * q, none⟩))) := fun w' h => by obtain ⟨_, _, h⟩ := hSa.out w' h; exact h.cell (.tail _ (.tail _ (.tail _ (.tail _ (.tail _ (.head _)))))) 0
 have cT : Hid (∀ w', (∃ s, St s w') → w'.cell? ⟨kb, 51 + 6 * q + 3, none⟩ = some (.pointer (some ⟨lt, 0, none⟩))) := fun w' h => by obtain ⟨_, _, h⟩ := hSa.out w' h; rw [h.cell (.tail _ (.head _)), hka.out]; rfl
 refine region_eff 9 (by kernel_rfl) (by kernel_rfl) (by kernel_rfl) [.val (.pointer (some ⟨kb, 51 + 6 * q, none⟩)), .val (.pointer (some ⟨kb, 51 + 6 * q, none⟩)), .val (.pointer (some ⟨kb, 51 + 6 * q, none⟩)), .val (.pointer (some ⟨kb, 51 + 6 * q + 3, none⟩)), .val (.pointer (some ⟨lt, 0, none⟩)), .eff (fun w3 w4 => ∃ cs, Own w3 w4 [(lt, cs, 74)]) (NewB w.heap.size 56 PB), .val (.pointer (some ⟨kb, 51 + 6 * q, none⟩)), .val (.pointer (some ⟨kb, 51 + 6 * q + 4, none⟩)), .eff (fun w3 w4 => ∃ cs, Own w3 w4 [(kb, cs, 98)]) (fun _ _ => True)] rfl ?_ (by kernel_rfl) St ((hS0.out _).2 HB.out) hSm.out ?_
 · simp only [eAll, eRow, Se.pres, or_true, true_or, true_and, and_true, implies_true]
   exact Or.inr (Or.inr (NewB.pres hkb))
 have z100 := tt
 try go_frame
 repeat (first
  | (clear z100; refine se_run (v := .pointer (some ⟨kb, 51 + 6 * q, none⟩)) rfl (fun w' hw' _ => rn_cell rfl rfl rfl rfl (c5.out w' hw')) ?_
     try go_frame; have z101 := tt)
  | (clear z101; refine se_run (v := .pointer (some ⟨kb, 51 + 6 * q, none⟩)) rfl (fun w' hw' _ => rn_cell rfl rfl rfl rfl (c5.out w' hw')) ?_
     try go_frame; have z102 := tt)
  | (clear z102; refine se_run (v := .pointer (some ⟨lt, 0, none⟩)) rfl (fun w' hw' _ => rn_cell rfl rfl rfl rfl (cT.out w' hw')) ?_
     try go_frame; have z103 := tt)
  | (clear z103; refine se_callE (args := #[.pointer (some ⟨lt, 0, none⟩)]) NewB.mono rfl rfl rfl (by simp [Act.eval]) Tryz.func12 (by kernel_rfl) (by kernel_rfl) (fun w' hS hF => ?_) ?_
     · have q2 := (hS0.out w').1 hS
       refine (hpu.out w' lt (q2.here _ _ _ (.head _))).mono ?_
       rintro e w'' ⟨v, rfl, ⟨p, c, e1, e2, e3⟩, q3⟩
       exact ⟨v, rfl, ⟨p, c, e1, e2.le q2.size, fun k hk => Nat.le_trans q2.size (e3 k hk)⟩, ⟨_, q3⟩, (hS1.out w'').2 (Own.next (L := [_]) q2 q3 rfl)⟩
     intro v25
     try go_frame; have z104 := tt)
  | (clear z104; refine se_store rfl rfl (fun w' hS hF => ?_) ?_
     · have hO := (hS1.out w').1 hS
       have hv := (hF.2 _ rfl (mE (by kernel_rfl)))
       obtain ⟨p, c, e1, e2, e3⟩ := hv
       subst e1
       exact (rn_store (v := .slice p 56 c) (b := kb) (i := 51 + 6 * q + 4) (hO.sub1 (.tail _ (.head _))) rfl rfl rfl (by kernel_rfl) .head (by rw [hkl.out]; omega) rfl).imp fun w'' h => by
          have g2 := h.2
          rw [hkt.out] at g2
          exact ⟨h.1, ⟨_, g2⟩, (hS2.out w'').2 ⟨_, NewB.pres hkb _ _ _ ⟨_, g2⟩ ⟨p, c, rfl, e2, e3⟩, Own.callAt (L1 := [_]) hO g2⟩⟩
     try go_frame; have z105 := tt)
  | (refine se_val (fun w' hw' hF => ?_) ⟨_, rfl, nB rfl⟩ ?_
     · go_big_quiet_step (fail)
       exact rfl
     try go_frame))
 refine se_nil ?_
 intro w6 hS hF
 obtain ⟨PV, hpv, HC⟩ := (hS2.out w6).1 hS
 have HC' := Hh HC
 have hpv' := Hh hpv
 clear hS hF HC hpv hS0 hS1 hS2 hSa hSm c5 cT HB
 simp only [List.drop_succ_cons, List.drop_zero]
 go_wp2_with fail
 clear St
 obtain ⟨St, hSt⟩ : ∃ St : Nat → World → Prop, St = fun s w' => (match s with
  | 0 => NewB w.heap.size 56 PB w' PV ∧ Own w w' ((lt, FL, 74) :: [(kb, keyR ss k l (.pointer (some ⟨tb, 0, none⟩)) q (.int .u32 0) (.int .i32 1) (.pointer (some ⟨lt, 0, none⟩)) PV (.slice none 0 0), 98), (tb, cs, 74), (b2, [.pointer (some ⟨kb, 0, none⟩)], 51), (b3, [.int .i64 q], 3), (b5, [.pointer (some ⟨kb, 51 + 6 * q, none⟩)], 102)])
  | 1 => NewB w.heap.size 56 PB w' PV ∧ Own w w' ((lt, FL, 74) :: [(kb, keyR ss k l (.pointer (some ⟨tb, 0, none⟩)) q (.int .u32 0) (.int .i32 1) (.pointer (some ⟨lt, 0, none⟩)) PV (.slice none 0 0), 98), (tb, FT, 74), (b2, [.pointer (some ⟨kb, 0, none⟩)], 51), (b3, [.int .i64 q], 3), (b5, [.pointer (some ⟨kb, 51 + 6 * q, none⟩)], 102)])
  | _ => ∃ sv, NewB w.heap.size 56 PB w' PV ∧ NewB w.heap.size n SG w' sv ∧ Own w w' ((lt, FL, 74) :: [(kb, keyR ss k l (.pointer (some ⟨tb, 0, none⟩)) q (.int .u32 0) (.int .i32 1) (.pointer (some ⟨lt, 0, none⟩)) PV sv, 98), (tb, FT, 74), (b2, [.pointer (some ⟨kb, 0, none⟩)], 51), (b3, [.int .i64 q], 3), (b5, [.pointer (some ⟨kb, 51 + 6 * q, none⟩)], 102)])) := ⟨_, rfl⟩
 have hS0 : Hid (∀ w', St 0 w' ↔ NewB w.heap.size 56 PB w' PV ∧ Own w w' ((lt, FL, 74) :: [(kb, keyR ss k l (.pointer (some ⟨tb, 0, none⟩)) q (.int .u32 0) (.int .i32 1) (.pointer (some ⟨lt, 0, none⟩)) PV (.slice none 0 0), 98), (tb, cs, 74), (b2, [.pointer (some ⟨kb, 0, none⟩)], 51), (b3, [.int .i64 q], 3), (b5, [.pointer (some ⟨kb, 51 + 6 * q, none⟩)], 102)])) := fun w' => by rw [hSt]; exact Iff.rfl
 have hS1 : Hid (∀ w', St 1 w' ↔ NewB w.heap.size 56 PB w' PV ∧ Own w w' ((lt, FL, 74) :: [(kb, keyR ss k l (.pointer (some ⟨tb, 0, none⟩)) q (.int .u32 0) (.int .i32 1) (.pointer (some ⟨lt, 0, none⟩)) PV (.slice none 0 0), 98), (tb, FT, 74), (b2, [.pointer (some ⟨kb, 0, none⟩)], 51), (b3, [.int .i64 q], 3), (b5, [.pointer (some ⟨kb, 51 + 6 * q, none⟩)], 102)])) := fun w' => by rw [hSt]; exact Iff.rfl
 have hS2 : Hid (∀ w', St 2 w' ↔ ∃ sv, NewB w.heap.size 56 PB w' PV ∧ NewB w.heap.size n SG w' sv ∧ Own w w' ((lt, FL, 74) :: [(kb, keyR ss k l (.pointer (some ⟨tb, 0, none⟩)) q (.int .u32 0) (.int .i32 1) (.pointer (some ⟨lt, 0, none⟩)) PV sv, 98), (tb, FT, 74), (b2, [.pointer (some ⟨kb, 0, none⟩)], 51), (b3, [.int .i64 q], 3), (b5, [.pointer (some ⟨kb, 51 + 6 * q, none⟩)], 102)])) := fun w' => by rw [hSt]; exact Iff.rfl
 have hSa : Hid (∀ w', (∃ s, St s w') → ∃ cs sv, Own w w' ((lt, FL, 74) :: [(kb, keyR ss k l (.pointer (some ⟨tb, 0, none⟩)) q (.int .u32 0) (.int .i32 1) (.pointer (some ⟨lt, 0, none⟩)) PV sv, 98), (tb, cs, 74), (b2, [.pointer (some ⟨kb, 0, none⟩)], 51), (b3, [.int .i64 q], 3), (b5, [.pointer (some ⟨kb, 51 + 6 * q, none⟩)], 102)])) := fun w' ⟨s, h⟩ => by
  rw [hSt] at h
  match s, h with
  | 0, h => exact ⟨_, _, h.2⟩
  | 1, h => exact ⟨_, _, h.2⟩
  | s + 2, ⟨_, _, _, h⟩ => exact ⟨_, _, h⟩
 have hSm : Hid (∀ s w1 w2, St s w1 → Own w1 w2 [] → St s w2) := fun s w1 w3 h1 h2 => by
  rw [hSt] at h1 ⊢
  match s, h1 with
  | 0, h1 => exact ⟨NewB.mono _ _ _ h2 h1.1, h1.2.call0 h2⟩
  | 1, h1 => exact ⟨NewB.mono _ _ _ h2 h1.1, h1.2.call0 h2⟩
  | s + 2, ⟨sv, g1, g2, h1⟩ => exact ⟨sv, NewB.mono _ _ _ h2 g1, NewB.mono _ _ _ h2 g2, h1.call0 h2⟩
 clear hSt
 have c5 : Hid (∀ w', (∃ s, St s w') → w'.cell? ⟨b5, 0, none⟩ = some (.pointer (some ⟨kb, 51 + 6 * q, none⟩))) := fun w' h => by obtain ⟨_, _, h⟩ := hSa.out w' h; exact h.cell (.tail _ (.tail _ (.tail _ (.tail _ (.tail _ (.head _)))))) 0
 have c2 : Hid (∀ w', (∃ s, St s w') → w'.cell? ⟨b2, 0, none⟩ = some (.pointer (some ⟨kb, 0, none⟩))) := fun w' h => by obtain ⟨_, _, h⟩ := hSa.out w' h; exact h.cell (.tail _ (.tail _ (.tail _ (.head _)))) 0
 have c3 : Hid (∀ w', (∃ s, St s w') → w'.cell? ⟨b3, 0, none⟩ = some (.int .i64 q)) := fun w' h => by obtain ⟨_, _, h⟩ := hSa.out w' h; exact h.cell (.tail _ (.tail _ (.tail _ (.tail _ (.head _))))) 0
 have cT : Hid (∀ w', (∃ s, St s w') → w'.cell? ⟨kb, 50, none⟩ = some (.pointer (some ⟨tb, 0, none⟩))) := fun w' h => by obtain ⟨_, _, h⟩ := hSa.out w' h; rw [h.cell (.tail _ (.head _))]; exact (hkk.out _ _ _ _ _).2.2
 have cP : Hid (∀ w', (∃ s, St s w') → w'.cell? ⟨kb, 51 + 6 * q + 4, none⟩ = some PV) := fun w' h => by obtain ⟨_, _, h⟩ := hSa.out w' h; rw [h.cell (.tail _ (.head _)), hka.out]; rfl
 refine region_eff 17 (by kernel_rfl) (by kernel_rfl) (by kernel_rfl) [.val (.pointer (some ⟨kb, 51 + 6 * q, none⟩)), .val (.pointer (some ⟨kb, 0, none⟩)), .val (.pointer (some ⟨kb, 0, none⟩)), .val (.pointer (some ⟨kb, 50, none⟩)), .val (.pointer (some ⟨tb, 0, none⟩)), .val (.int .i64 q), .val (.pointer (some ⟨kb, 51 + 6 * q, none⟩)), .val (.pointer (some ⟨kb, 51 + 6 * q, none⟩)), .val (.pointer (some ⟨kb, 51 + 6 * q + 4, none⟩)), .val PV, .eff (fun w3 w4 => ∃ cs, Own w3 w4 [(tb, cs, 74)]) (NewBT w.heap.size n SG), .rel (NewBT w.heap.size n SG), .rel (NewB w.heap.size n SG), .val (.int .i64 0), .val (.pointer (some ⟨kb, 51 + 6 * q, none⟩)), .val (.pointer (some ⟨kb, 51 + 6 * q + 5, none⟩)), .eff (fun w3 w4 => ∃ cs, Own w3 w4 [(kb, cs, 98)]) (fun _ _ => True)] rfl ?_ (by kernel_rfl) St ((hS0.out _).2 ⟨hpv'.out, HC'.out⟩) hSm.out ?_
 · simp only [eAll, eRow, Se.pres, or_true, true_or, true_and, and_true, implies_true]
   exact ⟨⟨Or.inr (Or.inr (NewBT.pres htb)), Or.inr (Or.inr (NewB.pres htb))⟩, Or.inr (Or.inr (NewBT.pres hkb)), Or.inr (Or.inr (NewBT.pres hkb)), Or.inr (Or.inr (NewB.pres hkb))⟩
 have z100 := tt
 try go_frame
 repeat (first
  | (clear z100; refine se_run (v := .pointer (some ⟨kb, 51 + 6 * q, none⟩)) rfl (fun w' hw' _ => rn_cell rfl rfl rfl rfl (c5.out w' hw')) ?_
     try go_frame; have z101 := tt)
  | (clear z101; refine se_run (v := .pointer (some ⟨kb, 0, none⟩)) rfl (fun w' hw' _ => rn_cell rfl rfl rfl rfl (c2.out w' hw')) ?_
     try go_frame; have z102 := tt)
  | (clear z102; refine se_run (v := .pointer (some ⟨tb, 0, none⟩)) rfl (fun w' hw' _ => rn_cell rfl rfl rfl rfl (cT.out w' hw')) ?_
     try go_frame; have z103 := tt)
  | (clear z103; refine se_run (v := .int .i64 q) rfl (fun w' hw' _ => rn_cell rfl rfl rfl rfl (c3.out w' hw')) ?_
     try go_frame; have z104 := tt)
  | (clear z104; refine se_run (v := .pointer (some ⟨kb, 51 + 6 * q, none⟩)) rfl (fun w' hw' _ => rn_cell rfl rfl rfl rfl (c5.out w' hw')) ?_
     try go_frame; have z105 := tt)
  | (clear z105; refine se_run (v := PV) rfl (fun w' hw' _ => rn_cell rfl rfl rfl rfl (cP.out w' hw')) ?_
     try go_frame; have z106 := tt)
  | (clear z106; refine se_callE (args := #[.pointer (some ⟨tb, 0, none⟩), .int .i64 q, PV]) NewBT.mono rfl rfl rfl (by simp [Act.eval]) Tryz.func15 (by kernel_rfl) (by kernel_rfl) (fun w' hS hF => ?_) ?_
     · obtain ⟨q1, q2⟩ := (hS0.out w').1 hS
       obtain ⟨p, c, e1, e2, e3⟩ := q1
       refine (hsg.out w' PV (q2.sub1 (.tail _ (.tail _ (.head _)))) (by rw [e1]; exact e2.old) (fun k hk => by have := e3 k (by rw [← e1]; exact hk); omega)).mono ?_
       rintro e w'' ⟨v, rfl, ⟨p4, c4, e4, e5, e6⟩, q3⟩
       exact ⟨v, rfl, ⟨p4, c4, e4, e5.le q2.size, fun k hk => Nat.le_trans q2.size (e6 k hk)⟩, ⟨_, q3⟩, (hS1.out w'').2 ⟨NewB.pres htb _ _ _ ⟨_, q3⟩ ⟨p, c, e1, e2, e3⟩, Own.callAt (L1 := [_, _]) q2 q3⟩⟩
     intro v39
     try go_frame; have z107 := tt)
  | (clear z107; refine se_rel NewBT.mono rfl (fun w' hw' hF => yieldsTo_val' (rn_move rfl rfl) ⟨Own.refl _, (hF.2 _ rfl (mE (by kernel_rfl)))⟩) ?_
     intro v28
     try go_frame; have z108 := tt)
  | (clear z108; refine se_rel NewB.mono rfl (fun w' hw' hF => ?_) ?_
     · obtain ⟨p, c, e1, e2⟩ := (hF.2 _ rfl (mE (by kernel_rfl)))
       exact yieldsTo_val' (rn_extract rfl e1 rfl) ⟨Own.refl _, p, c, rfl, e2⟩
     intro v40
     try go_frame; have z109 := tt)
  | (clear z109; refine se_run (v := .int .i64 0) rfl (fun w' hw' hF => ?_) ?_
     · obtain ⟨p, c, e1, e2⟩ := (hF.1.2 _ rfl (mE (by kernel_rfl)))
       exact rn_extract rfl e1 rfl
     try go_frame; have z110 := tt)
  | (clear z110; refine se_store rfl rfl (fun w' hS hF => ?_) ?_
     · obtain ⟨q1, hO⟩ := (hS1.out w').1 hS
       obtain ⟨p, c, e1, e2, e3⟩ := (hF.2 _ rfl (mE (by kernel_rfl)))
       subst e1
       exact (rn_store (v := .slice p n c) (b := kb) (i := 51 + 6 * q + 5) (hO.sub1 (.tail _ (.head _))) rfl rfl rfl (by kernel_rfl) .head (by rw [hkl.out]; omega) rfl).imp fun w'' h => by
          have g2 := h.2
          rw [hkt.out] at g2
          exact ⟨h.1, ⟨_, g2⟩, (hS2.out w'').2 ⟨_, NewB.pres hkb _ _ _ ⟨_, g2⟩ q1, NewB.pres hkb _ _ _ ⟨_, g2⟩ ⟨p, c, rfl, e2, e3⟩, Own.callAt (L1 := [_]) hO g2⟩⟩
     try go_frame; have z111 := tt)
  | (refine se_val (fun w' hw' hF => ?_) ⟨_, rfl, nB rfl⟩ ?_
     · go_big_quiet_step (fail)
       exact rfl
     try go_frame))
 refine se_nil ?_
 intro w7 hS hF
 obtain ⟨SV, g1, g2, HD⟩ := (hS2.out w7).1 hS
 have HD' := Hh HD
 have g1' := Hh g1
 have g2' := Hh g2
 clear hS hF HD g1 g2 hS0 hS1 hS2 hSa hSm c5 c2 c3 cT cP HC' hpv'
 simp only [List.drop_succ_cons, List.drop_zero]
 go_wp2_with fail
 go_end0
 exact ⟨rfl, lt, PV, SV, hTA.out _ _ (HD'.out.here _ _ _ (.head _)), g1'.out, g2'.out, hlt, Own.drop (L1 := [_]) HD'.out (by simpa using hlt)⟩
end Go.Proofs.YtfihlmnbonnekaaGreat
