/- chirographlaw5.HssForms. -/
import Derived.Test.YtfihlmnbonnekaaHKm
namespace Go.Proofs.Ytfihlmnbonnekaa
open Go.RowKit

set_option linter.unusedVariables false
theorem u8_at {xs : List Int} {j : Nat} {x : Int} (h : xs[j]? = some x) : (u8s xs)[j]? = some (.int .u8 x) := by simp [ints, h]
set_option maxRecDepth 100000 in
set_option maxHeartbeats 16000000 in
theorem hssForms_m (w : World) (id sd : List Int) (h16 : id.length = 16) (h32 : sd.length = 32) (hidb : IsBytes id) (hsdb : IsBytes sd) (n0 : Int) (N q r : Nat) (hN : N = 32 * q + r) (hq : q < 32) (hr : r < 32) (hM : wrap64 ((IntKind.u64.wrap n0).tmod 1024) = (N : Int)) (pm : Option Addr) (n cm : Nat) (msg : List Int) (hO : Old w (.slice pm n cm) msg) (hmb : IsBytes msg) (hn : n = msg.length) (hn30 : n ≤ 30) :
    Calls Try.prog 10 #[.agg (u8s (id ++ sd)).toArray, .int .i64 n0, (.slice pm n cm)] w fun e w' => e = .returned (.bool true) ∧ Own w w' [] := by
  have H := Own.refl w
  have h48 : (id ++ sd).length = 48 := by rw [List.length_append, h16, h32]
  have hto := Lib.hid htold_any
  have hnw := Lib.hid (fun w' => hnew_any w' (id ++ sd) h48 2 (Or.inr (Or.inl rfl)) 2 (Or.inr rfl))
  have hs1 := Lib.hid (fun kb tb w' H0 hO' hne => km_first kb tb q r N 8980 hq hr hN id sd h16 h32 2 (Or.inr (Or.inl rfl)) (id ++ sd) rfl w' (treeG (id ++ sd) 2 0 0 (List.replicate 2048 0) 0) (Or.inl rfl) H0 pm n cm msg hO' hmb (by omega) hne (by kernel_rfl))
  have hs2 := Lib.hid (fun kb tb w' L0 hL H0 hO' hne => km_again kb tb q r N 8980 hq hr hN id sd h16 h32 2 (Or.inr (Or.inl rfl)) w' L0 hL H0 pm n cm msg hO' hmb (by omega) hne (by kernel_rfl))
  have hpb := Lib.hid (fun kb tb w' L0 hL H0 => km_pub kb tb q id sd h16 h32 2 (Or.inr (Or.inl rfl)) w' L0 hL H0)
  have hch : Hid (∀ w', Calls Try.prog 31 #[.agg (u8s (id ++ sd)).toArray, .int .i64 q] w' fun e w'' => e = .returned (.agg (u8s (cidOf id sd q ++ csdOf id sd q)).toArray) ∧ Own w' w'' []) := fun w' => child_any w' id sd h16 h32 q q (by omega) (by simp only [IntKind.wrap, IntKind.bits, IntKind.signed]; simp; omega)
  have hsb := isBytes_sgL2 id sd 2 q r msg
  have hsl : Hid ((sgL2 id sd 2 q r msg).length = 8980) := (length_sgL2 id sd 2 q r msg).trans (by kernel_rfl)
  have hpbb : IsBytes (numB 2 4 ++ pubL id sd 2) := isBytes_app (isBytes_numB _ _) (isBytes_pubL hidb _ _)
  have hppl : Hid ((numB 2 4 ++ pubL id sd 2).length = 60) := by show _ = _; rw [List.length_append, length_numB, length_pubL h16]
  have hvs := hver_self2 h16 sd (k := 2) (Or.inr (Or.inl rfl)) hq hr msg
  have hvf : Hid (∀ w' v1 v2, Old w' v1 (numB 2 4 ++ pubL id sd 2) → Old w' (.slice pm n cm) msg → Old w' v2 (sgL2 id sd 2 q r msg) → Calls Try.prog 37 #[v1, (.slice pm n cm), v2] w' fun e w'' => e = .returned (.int .i64 0) ∧ Own w' w'' []) := fun w' v1 v2 g1 g2 g3 => by
    rw [← hvs]
    exact hver_any w' v1 (.slice pm n cm) v2 _ _ _ g1 hpbb g2 hmb (by omega) g3 hsb (by rw [hsl.out]; omega) (by rw [hppl.out]; omega)
  have hsm : Hid (∀ w' v1 v2, Old w' v1 (sgL2 id sd 2 q r msg) → Old w' v2 (sgL2 id sd 2 q r msg) → Calls Try.prog 19 #[v1, v2] w' fun e w'' => e = .returned (.bool true) ∧ Own w' w'' []) := fun w' v1 v2 g1 g2 => (same_any w' v1 v2 _ _ g1.1 g2.1 hsb hsb).mono fun e w'' h => by rw [decide_eq_true rfl] at h; exact h
  have hcb := isBytes_cidOf id sd q
  have hsm2 : Hid (∀ w' v1 v2, Old w' v1 (cidOf id sd q) → Old w' v2 (cidOf id sd q) → Calls Try.prog 19 #[v1, v2] w' fun e w'' => e = .returned (.bool true) ∧ Own w' w'' []) := fun w' v1 v2 g1 g2 => (same_any w' v1 v2 _ _ g1.1 g2.1 hcb hcb).mono fun e w'' h => by rw [decide_eq_true rfl] at h; exact h
  have hat := Lib.hid (sg_at (id := id) (sd := sd) hq hr msg)
  have hp3 : Hid ((numB 2 4 ++ pubL id sd 2)[3]? = some 2) := rfl
  have hcl := Lib.hid (length_cidOf id sd q)
  have hdl := Lib.hid (length_csdOf id sd q)
  obtain ⟨SG, hSG⟩ : ∃ x, x = sgL2 id sd 2 q r msg := ⟨_, rfl⟩
  obtain ⟨PU, hPU⟩ : ∃ x, x = numB 2 4 ++ pubL id sd 2 := ⟨_, rfl⟩
  obtain ⟨CI, hCI⟩ : ∃ x, x = cidOf id sd q := ⟨_, rfl⟩
  obtain ⟨CD, hCD⟩ : ∃ x, x = csdOf id sd q := ⟨_, rfl⟩
  simp only [← hSG] at hs1 hs2 hsl hvf hsm hat
  simp only [← hPU] at hpb hppl hvf hp3
  simp only [← hCI] at hch hsm2 hat hcl
  simp only [← hCD] at hch hdl
  have hsz48 : Hid ((Try.prog.info? 30).map (·.size) = some (u8s (id ++ sd)).length) := by show _ = _; rw [length_ints, h48]; exact size_secret
  have hkR : Hid (∀ tb : Nat, keyC (id ++ sd) ((2 : Nat) : Int) 2 (.pointer (some ⟨tb, 0, none⟩)) lows0 = keyR (id ++ sd) ((2 : Nat) : Int) 2 (.pointer (some ⟨tb, 0, none⟩)) q (.int .u32 0) (.int .i32 0) (.pointer none) (.slice none 0 0) (.slice none 0 0)) := fun tb => keyC_R _ _ _ _ hq
  have hM2 : IntKind.i64.wrap ((IntKind.u64.wrap n0).tmod 1024) = (N : Int) := (IntWalk.i64_left _).trans hM
  have hquo : (N : Int).tdiv 32 = q := by rw [Int.tdiv_eq_ediv_of_nonneg (by omega)]; omega
  have hrem : (N : Int).tmod 32 = r := by rw [Int.tmod_eq_emod_of_nonneg (by omega)]; omega
  have hn3 : ¬ (30 : Int) < n := by omega
  have hn3b : ¬ 30 < n := by omega
  have hO' := Lib.hid hO
  clear hN hmb hn hO hSG hPU hCI hCD hsb hpbb hvs hcb h16 h32 hidb hsdb h48
  go_enter Try.func10, Try.ntmps10
  have tok1 : True := trivial
  go_wp2_with (first
    | (clear tok1; refine st_new rfl (rn_box (cs := u8s (id ++ sd)) H rfl rfl rfl) ?_; clear H; intro b3 w1 hb3 H; have tok2 : True := trivial)
    | (clear tok2; refine st_val rfl (rn_loadAll (cs := u8s (id ++ sd)) H rfl rfl (.head _) rfl rfl hsz48.out) ?_; have HB := Lib.hid H; have hb3w := H.lt (.head _); have O1 := Lib.hid (hO'.out.mv H (by simp; omega)); clear H; have tok3 : True := trivial)
    | (clear tok3; go_at_call 34; refine (hnw.out _).mono ?_; rintro e w2 ⟨kb, tb, rfl, hkb, htb, h3⟩; rw [hkR.out] at h3; have G2 := Lib.hid h3; have O2 := Lib.hid (O1.out.mv h3 (by simp; omega)); clear h3; have tok4 : True := trivial)
    | (clear tok4; go_at_call 35; refine (hs1.out kb tb w2 G2.out.self O2.out (fun j hj => by have := O1.out.2 j hj; omega)).mono ?_; rintro e w3 ⟨p1, c1, rfl, r1, L0, k1, k2, k3, h3⟩; have G3 : Hid (Own w1 w3 L0) := (by have g := Own.call (L1 := [_, _]) (L1' := L0) (L := []) G2.out ⟨h3, k2⟩ (fun j hj => Or.inl (k3 j hj)); rw [List.append_nil] at g; exact g); have L3 : Hid (∀ j ∈ L0.map (·.1), w1.heap.size ≤ j) := (fun j hj => (k2 j hj).elim (fun h => by simp at h; omega) (fun h => Nat.le_trans G2.out.size h)); have A3 := Lib.hid r1.old; have K1 := Lib.hid k1; have e1 := r1.addr (by rw [hsl.out]; omega); clear h3 k1 k2 k3 r1; obtain ⟨g1, e1, hg1, _, _⟩ := e1; rw [hsl.out] at hg1; subst e1; have tok5 : True := trivial)
    | (clear tok5; go_at_call 35; refine (hs2.out kb tb w3 L0 K1.out G3.out.self (O1.out.mv (G3.out.end0 L3.out) (by simp)) (fun j hj hm => by have h1 := O1.out.2 j hj; have h2 := L3.out j hm; omega)).mono ?_; rintro e w4 ⟨p2, c2, rfl, r2, h4⟩; have G4 := Lib.hid (G3.out.call0 h4); have A4 := Lib.hid (A3.out.mv h4 (by simp)); have B4 := Lib.hid r2.old; clear h4 r2 G3 A3; have tok6 : True := trivial)
    | (clear tok6; go_at_call 36; refine (hpb.out kb tb w4 L0 K1.out G4.out.self).mono ?_; rintro e w5 ⟨p3, c3, rfl, r3, h5⟩; have G5 := Lib.hid (G4.out.call0 h5); have A5 := Lib.hid (A4.out.mv h5 (by simp)); have B5 := Lib.hid (B4.out.mv h5 (by simp)); have P5 := Lib.hid r3.old; have e3 := r3.addr (by rw [hppl.out]; omega); clear h5 r3 G4 A4 B4; obtain ⟨g3, e3, hg3, _, _⟩ := e3; subst e3; have H := Own.refl w5; have tok7 : True := trivial)
    | (clear tok7; go_at_call 19; refine (hsm.out _ _ _ A5.out B5.out).mono ?_; rintro e w6 ⟨rfl, h6⟩; have H := h6; clear h6; have P3 : Hid (w6.cell? ⟨g3, 3, none⟩ = some (.int .u8 2)) := (by have h2 := bytes_cellV (P5.out.mv H (by simp)).1 3 _ (u8_at hp3.out); rwa [Nat.zero_add] at h2); have tok8 : True := trivial)
    | (clear tok8; refine st_valG rfl (rn_idxSl (j := 3) rfl rfl size_u8 rfl rfl (by omega) (by omega)) ?_; have tok9 : True := trivial)
    | (clear tok9; refine st_valG rfl (rn_cell rfl rfl rfl rfl P3.out) ?_; have tok10 : True := trivial)
    | (clear tok10; refine st_val rfl (rn_cells rfl rfl rfl rfl hsz48.out (fun j v hj => by rw [((HB.out.call0 (G5.out.end0 L3.out)).call0 H).cell (.head _), Nat.zero_add]; exact hj)) ?_; have tok11 : True := trivial)
    | (clear tok11; go_at_call 31; refine (hch.out _).mono ?_; rintro e w7 ⟨rfl, h7⟩; have H2 := H.call0 h7; clear H h7; have H := H2; clear H2; have tok12 : True := trivial)
    | (clear tok12; refine st_new rfl (rn_alloc H rfl (cs := u8s (List.replicate 48 0)) (by kernel_rfl)) ?_; clear H; intro b15 w8 hb15 H; have tok13 : True := trivial)
    | (clear tok13; refine st_skip rfl (rn_storeAll (vs := u8s (CI ++ CD)) H rfl rfl rfl (by rw [length_ints, List.length_append, hcl.out, hdl.out]; exact size_secret) .head (by rw [length_ints, length_ints, List.length_append, hcl.out, hdl.out]; rfl) (oneCell_ints _ _)) ?_; clear H; intro w9 H; have tok14 : True := trivial))
  have HH := Lib.hid H
  clear H
  have fA : Hid (∀ w', Own w9 w' [] → Old w' (.slice (some ⟨g1, 0, none⟩) 8980 c1) SG) := fun w' h => A5.out.mv (HH.out.call0 h) (by simpa using hb15)
  have fP : Hid (∀ w', Own w9 w' [] → Old w' (.slice (some ⟨g3, 0, none⟩) 60 c3) PU) := fun w' h => P5.out.mv (HH.out.call0 h) (by simpa using hb15)
  have fM : Hid (∀ w', Own w9 w' [] → Old w' (.slice pm n cm) msg) := fun w' h => ((O1.out.mv (G5.out.end0 L3.out) (by simp)).mv (HH.out.call0 h) (by simpa using hb15))
  have d3 : Hid (∀ w', Own w9 w' [] → w'.cell? ⟨g1, 3, none⟩ = some (.int .u8 1)) := fun w' h => by have h2 := bytes_cellV (fA.out w' h).1 3 _ (u8_at hat.out.1); rwa [Nat.zero_add] at h2
  have d7 : Hid (∀ w', Own w9 w' [] → w'.cell? ⟨g1, 7, none⟩ = some (.int .u8 q)) := fun w' h => by have h2 := bytes_cellV (fA.out w' h).1 7 _ (u8_at hat.out.2.1); rwa [Nat.zero_add] at h2
  have d45 : Hid (∀ w', Own w9 w' [] → w'.cell? ⟨g1, 4523, none⟩ = some (.int .u8 r)) := fun w' h => by have h2 := bytes_cellV (fA.out w' h).1 4523 _ (u8_at hat.out.2.2.1); rwa [Nat.zero_add] at h2
  have fX : Hid (∀ w', Own w9 w' [] → Old w' (.slice (some ⟨g1, 4472, none⟩) 16 (c1 - 4472)) CI) := fun w' h => by
    have h2 := (fA.out w' h).part (l := 4472) (m := 16) (d := c1 - 4472) hsl.out.symm (by omega) (by omega) (by omega)
    rw [hat.out.2.2.2, Nat.zero_add] at h2
    exact h2
  have fY : Hid (∀ w', Own w9 w' [] → Old w' (.slice (some ⟨b15, 0, none⟩) 16 16) CI) := fun w' h => ((HH.out.call0 h).binAt (o := 0) (.head _) (fun j v hj => by rw [Nat.zero_add, u8s_app, List.getElem?_append_left (List.getElem?_eq_some_iff.1 hj).1]; exact hj) hcl.out.symm (Nat.le_refl _)).old'
  have hwq : IntKind.i64.wrap (q : Int) = q := by simp only [IntKind.wrap, IntKind.bits, IntKind.signed]; simp; omega
  have hwr : IntKind.i64.wrap (r : Int) = r := by simp only [IntKind.wrap, IntKind.bits, IntKind.signed]; simp; omega
  refine region_grow 39 (by kernel_rfl) (by kernel_rfl) (by kernel_rfl) [.val (.bool true), .val (.bool true), .val (.slice (some ⟨g1, 0, none⟩) 8980 c1), .val (.pointer (some ⟨g1, 3, none⟩)), .val (.int .u8 1), .val (.bool true), .val (.bool true), .val (.bool true), .val (.slice (some ⟨g1, 0, none⟩) 8980 c1), .val (.pointer (some ⟨g1, 7, none⟩)), .val (.int .u8 q), .val (.int .i64 q), .val (.int .i64 N), .val (.int .i64 q), .val (.bool true), .val (.bool true), .val (.bool true), .val (.slice (some ⟨g1, 0, none⟩) 8980 c1), .val (.pointer (some ⟨g1, 4523, none⟩)), .val (.int .u8 r), .val (.int .i64 r), .val (.int .i64 N), .val (.int .i64 r), .val (.bool true), .val (.bool true), .val (.bool true), .val (.slice (some ⟨g1, 0, none⟩) 8980 c1), .val (.slice (some ⟨g1, 4472, none⟩) 16 (c1 - 4472)), .val (.pointer (some ⟨b15, 0, none⟩)), .val (.slice (some ⟨b15, 0, none⟩) 16 16), .val (.bool true), .val (.bool true), .val (.bool true), .val (.slice (some ⟨g3, 0, none⟩) 60 c3), .val (.slice pm n cm), .val (.slice (some ⟨g1, 0, none⟩) 8980 c1), .val (.int .i64 0), .val (.bool true), .val (.bool true)] rfl ?_
  have tok100 : True := trivial
  try go_frame
  repeat (first
    | (clear tok100; refine sp_callN (v := (.bool true)) (args := #[]) rfl rfl (by simp) Try.func32 (by kernel_rfl) (by kernel_rfl) (fun w' hw' _ => hto.out w') ?_; try go_frame; have tok101 : True := trivial)
    | (clear tok101; refine sp_run (v := (.pointer (some ⟨g1, 3, none⟩))) rfl (fun w' hw' _ => rn_idxSl (j := 3) rfl rfl size_u8 rfl rfl (by omega) (by omega)) ?_; try go_frame; have tok102 : True := trivial)
    | (clear tok102; refine sp_run (v := (.int .u8 1)) rfl (fun w' hw' _ => rn_cell rfl rfl rfl rfl (d3.out w' hw')) ?_; try go_frame; have tok103 : True := trivial)
    | (clear tok103; refine sp_run (v := (.pointer (some ⟨g1, 7, none⟩))) rfl (fun w' hw' _ => rn_idxSl (j := 7) rfl rfl size_u8 rfl rfl (by omega) (by omega)) ?_; try go_frame; have tok104 : True := trivial)
    | (clear tok104; refine sp_run (v := (.int .u8 q)) rfl (fun w' hw' _ => rn_cell rfl rfl rfl rfl (d7.out w' hw')) ?_; try go_frame; have tok105 : True := trivial)
    | (clear tok105; refine sp_run (v := (.pointer (some ⟨g1, 4523, none⟩))) rfl (fun w' hw' _ => rn_idxSl (j := 4523) rfl rfl size_u8 rfl rfl (by omega) (by omega)) ?_; try go_frame; have tok106 : True := trivial)
    | (clear tok106; refine sp_run (v := (.int .u8 r)) rfl (fun w' hw' _ => rn_cell rfl rfl rfl rfl (d45.out w' hw')) ?_; try go_frame; have tok107 : True := trivial)
    | (clear tok107; refine sp_run (v := (.slice (some ⟨g1, 4472, none⟩) 16 (c1 - 4472))) rfl (fun w' hw' _ => rn_part (l := 4472) (h := 4488) (m := 16) (d := c1 - 4472) rfl rfl size_u8 rfl (by exact .yes rfl) (by exact .yes rfl) (by omega) (by omega) hg1 rfl rfl) ?_; try go_frame; have tok108 : True := trivial)
    | (clear tok108; refine sp_run (v := (.slice (some ⟨b15, 0, none⟩) 16 16)) rfl (fun w' hw' _ => rn_sliceAll rfl rfl size_u8 rfl (by omega)) ?_; try go_frame; have tok109 : True := trivial)
    | (clear tok109; refine sp_callN (v := (.bool true)) (args := #[(.slice (some ⟨g1, 4472, none⟩) 16 (c1 - 4472)), (.slice (some ⟨b15, 0, none⟩) 16 16)]) rfl rfl (by simp [Act.eval]) Try.func19 (by kernel_rfl) (by kernel_rfl) (fun w' hw' _ => hsm2.out w' _ _ (fX.out w' hw') (fY.out w' hw')) ?_; try go_frame; have tok110 : True := trivial)
    | (clear tok110; refine sp_callN (v := (.int .i64 0)) (args := #[(.slice (some ⟨g3, 0, none⟩) 60 c3), (.slice pm n cm), (.slice (some ⟨g1, 0, none⟩) 8980 c1)]) rfl rfl (by simp [Act.eval]) Try.func37 (by kernel_rfl) (by kernel_rfl) (fun w' hw' _ => hvf.out w' _ _ (fP.out w' hw') (fM.out w' hw') (fA.out w' hw')) ?_; try go_frame; have tok111 : True := trivial)
    | (refine sp_val (fun w' hw' hF => ?_) ⟨_, rfl, Nat.le_of_ble_eq_true rfl⟩ ?_
       · go_big_quiet_step (fail)
         first | exact rfl | simp
       try go_frame))
  refine sp_nil ?_
  intro w10 hw' hF
  have HE := Lib.hid ((HB.out.call0 ((G5.out.end0 L3.out).trans ((HH.out.call0 hw').end0 (by simpa using hb15)))).end0 (by simpa using hb3))
  clear hF hw'
  simp only [List.drop_succ_cons, List.drop_zero]
  go_wp2_with fail
  go_ret
  exact ⟨rfl, HE.out⟩
theorem hssForms_row (w : World) (ss : List Int) (h48 : ss.length = 48) (hsb : ∀ i, i < ss.length → 0 ≤ ss[i]?.getD 0 ∧ ss[i]?.getD 0 < 256) (n0 : Int) (_ : IntKind.i64.min ≤ n0) (_ : n0 ≤ IntKind.i64.max)
    (mv : Value) (msg : List Int) (hm : BytesAt w mv msg) (hml : ∀ k, blk mv = some k → k < w.heap.size) (hmb : ∀ i, i < msg.length → 0 ≤ msg[i]?.getD 0 ∧ msg[i]?.getD 0 < 256) :
    Calls Try.prog 10 #[.agg (u8s ss).toArray, .int .i64 n0, mv] w fun e w' => e = .returned (.bool true) ∧ Own w w' [] := by
  rename_i q1 q2
  clear q1 q2
  have H := Own.refl w
  have hO : Old w mv msg := ⟨hm, hml⟩
  obtain ⟨pm, cm, rfl⟩ := hO.shape
  obtain ⟨n, hn⟩ : ∃ n, n = msg.length := ⟨_, rfl⟩
  rw [← hn] at hO ⊢
  obtain ⟨id, seed, rfl, h16, h32⟩ := split48 h48
  have hidb : IsBytes id := isBytes_left hsb
  have hsdb : IsBytes seed := isBytes_mem.2 fun x hx => isBytes_mem.1 hsb x (List.mem_append_right _ hx)
  have hto := Lib.hid htold_any
  by_cases hbig : 30 < n
  · clear hm hml hmb hO hn h48 h16 h32 hsb hidb hsdb
    go_enter Try.func10, Try.ntmps10
    have tok1 : True := trivial
    go_wp2_with (first
      | (clear tok1; refine st_new rfl (rn_box (cs := u8s (id ++ seed)) H rfl rfl rfl) ?_; clear H; intro b7 w1 hb7 H; have tok2 : True := trivial)
      | (clear tok2; go_at_call 32; refine (hto.out _).mono ?_; rintro e w2 ⟨rfl, h3⟩; have H2 := H.call0 h3; clear H h3; have H := H2; clear H2; have tok3 : True := trivial))
    have h1 := Lib.hid (H.end0 (by simpa using hb7))
    clear H
    go_ret
    exact ⟨rfl, h1.out⟩
  obtain ⟨k0, hk0, hk2⟩ := rem_wrap n0 1024 (by omega) (by omega)
  exact hssForms_m w id seed h16 h32 hidb hsdb n0 k0 (k0 / 32) (k0 % 32) (by omega) (by omega) (by omega) hk0 pm n cm msg hO hmb hn (by omega)

end Go.Proofs.Ytfihlmnbonnekaa
