/- ots: Sign. -/
import Derived.Test.YtfihlmnbonnekaaPrg4
import Derived.Test.YtfihlmnbonnekaaTupI
namespace Go.Proofs.Ytfihlmnbonnekaa
open Go.RowKit

theorem Buf.perm {e : TypeId} {k : IntKind} {w0 w : World} {L L' : List Ent} {v : Value} {xs : List Int} (E : Buf e k w0 w L v xs) (p : L.Perm L') : Buf e k w0 w L' v xs := by
  obtain ⟨Lv, h1, h2, h3⟩ := E
  exact ⟨Lv, h1, h2.perm (p.append_left Lv), h3⟩

theorem code_k (w : World) (k : Nat) (hk : k = 1 ∨ k = 2 ∨ k = 4 ∨ k = 8) : Calls Try.prog 62 #[.int .i64 k] w fun e w' => e = .returned (.int .i64 (cdN k)) ∧ Own w w' [] := by
  rcases hk with rfl | rfl | rfl | rfl <;> exact code_any w _
theorem cdN_range (k : Nat) : 1 ≤ cdN k ∧ cdN k ≤ 4 := by unfold cdN; repeat (first | omega | split)

set_option maxRecDepth 100000 in
set_option maxHeartbeats 4000000 in
theorem sign_any (w : World) (id seed : List Int) (h16 : id.length = 16) (h32 : seed.length = 32) (q k : Nat) (hq : q < 32) (hk : k = 1 ∨ k = 2 ∨ k = 4 ∨ k = 8) (mv : Value) (msg : List Int) (hm : Old w mv msg) (hmb : IsBytes msg) (hml : msg.length ≤ 90000) :
    Calls Try.prog 58 #[.agg (u8s (id ++ seed)).toArray, .int .i64 q, .int .i64 k, mv] w fun e w' => ∃ r, e = .returned (.tuple #[r, .int .i64 0]) ∧ BIn (sigOf id seed q k msg) w' r ∧ Own w w' [] := by
  have H := Own.refl w
  have hmay : Hid (∀ w', Calls Try.prog 81 #[.int .i64 q, .int .i64 k] w' fun e w'' => e = .returned (.bool true) ∧ Own w' w'' []) := fun w' => by rw [← may_k hq hk]; exact may_any w' q k
  obtain ⟨hC0, hC1⟩ := chN_le k
  have hk8 : k ≤ 8 := by omega
  have hsig0 : sigOf id seed q k msg = numB (cdN k) 4 ++ randOf id seed q ++ flatX (chainOf id seed q (dgN (msgOf id q (randOf id seed q) msg) k)) (chN k) := rfl
  obtain ⟨Cr, hCr⟩ : ∃ c, c = randOf id seed q := ⟨_, rfl⟩
  have hCrl : Hid (Cr.length = 32) := by show _ = _; rw [hCr]; rfl
  have hCrb : Hid (IsBytes Cr) := by rw [hCr]; exact isBytes_sha _
  have hsr : Hid (∀ w', Calls Try.prog 63 #[.agg (u8s (id ++ seed)).toArray, .int .i64 q, .int .i64 65533] w' fun e w'' => e = .returned (.agg (u8s Cr).toArray) ∧ Own w' w'' []) := fun w' => by rw [hCr]; exact derive_any w' id seed h16 h32 q 65533 hq (by omega)
  obtain ⟨M, hM⟩ : ∃ M, M = msgOf id q Cr msg := ⟨_, rfl⟩
  have hMl : Hid (M.length = 32) := by show _ = _; rw [hM]; rfl
  have hMb : Hid (IsBytes M) := by rw [hM]; exact isBytes_sha _
  have hhash : Hid (∀ w' v, LitL [Cr, msg] w' v → Calls Try.prog 83 #[.agg (u8s id).toArray, .int .i64 q, .int .i64 33153, v] w' fun e w'' => e = .returned (.agg (u8s M).toArray) ∧ Own w' w'' []) := fun w' v h => by
    have h2 := hash_any w' id h16 q 33153 hq (by omega) v [Cr, msg] h (by have := hCrl.out; simp; omega) (by simp)
    rw [show sha (hashIn id q 33153 [Cr, msg]) = M by rw [hM]; unfold hashIn msgOf; rw [show numB ((33153 : Nat) : Int) 2 = [129, 129] by kernel_rfl, List.append_assoc]; simp] at h2
    exact h2
  have hdig : Hid (∀ w', Calls Try.prog 82 #[.int .i64 k, .agg (u8s M).toArray] w' fun e w'' => ∃ r, e = .returned r ∧ TupI (digits M k) w'' r ∧ Own w' w'' []) := fun w' => digitsT_any w' k hk M hMl.out hMb.out
  have hcd := Lib.hid (fun w' => code_k w' k hk)
  obtain ⟨hcd0, hcd9⟩ := cdN_range k
  obtain ⟨cd, hcd1⟩ : ∃ c, c = cdN k := ⟨_, rfl⟩
  have hdl := Lib.hid (length_digits M k)
  have hdn : Hid (∀ n, n < chN k → (ints .i64 (digits M k))[n]? = some (.int .i64 (dgN M k n : Nat)) ∧ dgN M k n < 2 ^ k) := fun n hn => dgN_eq hn
  obtain ⟨ds, hds⟩ : ∃ d, d = digits M k := ⟨_, rfl⟩
  obtain ⟨D, hD⟩ : ∃ d, d = dgN M k := ⟨_, rfl⟩
  have hp256 : (2 : Nat) ^ k ≤ 256 := by have := Nat.pow_le_pow_right (n := 2) (by omega) hk8; omega
  have hD256 : Hid (∀ n, n < chN k → D n ≤ 255) := fun n hn => by have := (hdn.out n hn).2; rw [hD]; omega
  obtain ⟨X, hX⟩ : ∃ X, X = chainOf id seed q D := ⟨_, rfl⟩
  have hXl : Hid (∀ i, (X i).length = 32) := fun i => by rw [hX]; exact length_chainOf ..
  have hal : Hid (∀ i B w', i < 300 → B ≤ w'.heap.size → Calls Try.prog 86 #[.agg (u8s id).toArray, .int .i64 q, .int .i64 (i : Nat)] w' fun e w'' => ∃ r, e = .returned r ∧ IsCh B (pre22 id q i) w'' r ∧ Own w' w'' []) := fun i B w' hi h => along_ch B w' id h16 q i hq (by omega) h
  have hde : Hid (∀ i w', i < 300 → Calls Try.prog 63 #[.agg (u8s (id ++ seed)).toArray, .int .i64 q, .int .i64 (i : Nat)] w' fun e w'' => e = .returned (.agg (u8s (secretOf id seed q i)).toArray) ∧ Own w' w'' []) := fun i w' hi => derive_any w' id seed h16 h32 q i hq (by omega)
  have hwk : Hid (∀ (i B : Nat) (w0 w' : World) (L : List Ent) (v : Value), i < chN k → IsCh B (pre22 id q i) w' v → Own w0 w' L → w0.heap.size ≤ B → (∀ k ∈ L.map (·.1), k < B) → Calls Try.prog 87 #[v, .agg (u8s (secretOf id seed q i)).toArray, .int .i64 0, .int .i64 (D i : Nat)] w' fun e w'' => e = .returned (.agg (u8s (X i)).toArray) ∧ ChE B w' w'' ∧ Own w0 w'' L) := fun i B w0 w' L v hi h1 h2 h3 h4 => by
    have h := walk_ch h1 h2 h3 h4 0 (D i) (by omega) (by have := hD256.out i hi; omega) (secretOf id seed q i) rfl
    rw [show stepsC (pre22 id q i) 0 (secretOf id seed q i) (D i - 0) = X i by rw [hX, Nat.sub_zero]; rfl] at h
    exact h
  rw [← hCr, ← hM, ← hcd1, ← hD, ← hX] at hsig0
  have hsig := Lib.hid hsig0
  obtain ⟨R, hR⟩ : ∃ R, R = sigOf id seed q k msg := ⟨_, rfl⟩
  rw [← hR] at hsig ⊢
  obtain ⟨S, hS⟩ : ∃ S, S = secretOf id seed q := ⟨_, rfl⟩
  obtain ⟨pr, hpr⟩ : ∃ S, S = pre22 id q := ⟨_, rfl⟩
  obtain ⟨C, hC⟩ : ∃ C, C = chN k := ⟨_, rfl⟩
  have hsz := Lib.hid (size_idL h16)
  have hsz48 := Lib.hid (size_secretL h16 h32)
  rw [← hD] at hdn
  rw [← hds] at hdig hdl hdn
  rw [← hC] at hC0 hC1 hdl hdn hD256 hsig hwk
  rw [← hcd1] at hcd hcd0 hcd9
  simp only [← hS] at hde hwk
  simp only [← hpr] at hal hwk
  have hO : Hid (Old w mv msg) := hm
  have hmb' := Lib.hid hmb
  obtain ⟨pm, cm, rfl⟩ := hm.shape
  obtain ⟨ln, hln⟩ : ∃ n, n = msg.length := ⟨_, rfl⟩
  have hln' := Lib.hid hln
  rw [← hln] at hO ⊢
  clear hX hC hR hS hpr h16 h32 hk hCr hM hcd1 hds hD hsig0 hm hmb hml hln hp256
  go_enter Try.func58, Try.ntmps58
  have tok1 : True := trivial
  go_wp2_with (first
    | (clear tok1; refine st_new rfl (rn_box (cs := u8s (id ++ seed)) H rfl rfl rfl) ?_; clear H; intro b4 w1 hb4 H; have tok2 : True := trivial)
    | (clear tok2; go_at_call 81; refine (hmay.out _).mono ?_; rintro e w2 ⟨rfl, h3⟩; have H2 := H.call0 h3; clear H h3; have H := H2; clear H2; have tok3 : True := trivial)
    | (clear tok3; refine st_val rfl (rn_loadAll (cs := u8s (id ++ seed)) H rfl rfl (.head _) rfl rfl hsz48.out) ?_; have tok4 : True := trivial)
    | (clear tok4; go_at_call 63; refine (hsr.out _).mono ?_; rintro e w3 ⟨rfl, h3⟩; have H2 := H.call0 h3; clear H h3; have H := H2; clear H2; have tok5 : True := trivial)
    | (clear tok5; refine st_new rfl (rn_alloc H rfl info_hash) ?_; clear H; intro b10 w4 hb10 H; have tok6 : True := trivial)
    | (clear tok6; refine st_skip rfl (rn_storeAll (vs := u8s Cr) H rfl rfl rfl (size_hashL hCrl.out) .head (by rw [length_ints, length_ints, hCrl.out]; rfl) (oneCell_ints _ _)) ?_; clear H; intro w5 H))
  have hc16 : Hid (∀ w', Own w5 w' [] → ∀ j v, (u8s id)[j]? = some v → w'.cell? ⟨b4, 0 + j, none⟩ = some v) := fun w' h j v hj => (H.call0 h).rowL (.tail _ (.head _)) j v hj
  have hcr : Hid (∀ w', Own w5 w' [] → BIn Cr w' (.slice (some ⟨b10, 0, none⟩) 32 32)) := fun w' h => ⟨⟨_, _, by rw [hCrl.out]⟩, Own.litM (H.call0 h) (.head _) hCrl.out.symm, fun k hk => by obtain rfl := (blk_some hk).1; exact (H.call0 h).lt (.head _)⟩
  have hmo : Hid (∀ w', Own w5 w' [] → BIn msg w' (.slice pm ln cm)) := fun w' h => (hO.out.mv (H.call0 h) (by simp; omega)).bin
  have H5 := Lib.hid H
  clear H
  refine region_grow 13 (by kernel_rfl) (by kernel_rfl) (by kernel_rfl) [.val (.int .i64 k), .val (.pointer (some ⟨b4, 0, none⟩)), .val (.agg (u8s id).toArray), .val (.int .i64 q), .val (.slice (some ⟨b10, 0, none⟩) 32 32), .val (.slice pm ln cm), .rel (LitL [Cr, msg]), .val (.agg (u8s M).toArray), .rel (TupI ds), .rel (TupI ds), .rel (IIn .i64 ds), .val (.int .i64 0), .rel (IIn .i64 ds)] rfl ?_
  have tok3 : True := trivial
  try go_frame
  repeat (first
    | (clear tok3; refine sp_run (v := .agg (u8s id).toArray) rfl (fun w' hw' _ => rn_cells rfl rfl rfl rfl hsz.out (hc16.out w' hw')) ?_; go_frame; have tok4 : True := trivial)
    | (clear tok4; refine sp_run (v := .slice (some ⟨b10, 0, none⟩) 32 32) rfl (fun w' hw' _ => rn_sliceAll rfl rfl size_u8 rfl (by omega)) ?_; go_frame; have tok5 : True := trivial)
    | (clear tok5; refine sp_rel (LitL.mono _) rfl (fun w' hw' hF => ?_) ?_
       · refine litL_build (e := 33) (l := [(.slice (some ⟨b10, 0, none⟩) 32 32, Cr), (.slice pm ln cm, msg)]) rfl rfl rfl (fun x hx => ?_) (fun w' => by kernel_rfl)
         simp only [List.mem_cons, List.not_mem_nil, or_false] at hx
         rcases hx with rfl | rfl
         · exact ⟨hcr.out w' hw', hCrb.out⟩
         · exact ⟨hmo.out w' hw', hmb'.out⟩
       intro v31; go_frame; have tok6 : True := trivial)
    | (clear tok6; refine sp_callN (v := .agg (u8s M).toArray) (args := #[.agg (u8s id).toArray, .int .i64 q, .int .i64 33153, v31]) rfl rfl (by simp [Act.eval]) Try.func83 (by kernel_rfl) (by kernel_rfl) (fun w' hw' hF => hhash.out w' v31 (hF.2 _ rfl (List.mem_of_elem_eq_true (by kernel_rfl)))) ?_; go_frame; have tok7 : True := trivial)
    | (clear tok7; refine sp_callR (args := #[.int .i64 k, .agg (u8s M).toArray]) (TupI.mono _) rfl rfl (by simp [Act.eval]) Try.func82 (by kernel_rfl) (by kernel_rfl) (fun w' _ _ => hdig.out w') ?_; intro v33; go_frame; have tok8 : True := trivial)
    | (clear tok8; refine sp_rel (TupI.mono _) rfl (fun w' hw' hF => yieldsTo_val' (rn_move rfl rfl) ⟨Own.refl _, hF.2 _ rfl (List.mem_of_elem_eq_true (by kernel_rfl))⟩) ?_; intro v24; go_frame; have tok9 : True := trivial)
    | (clear tok9; refine sp_rel (IIn.mono _ _) rfl (fun w' hw' hF => ?_) ?_
       · obtain ⟨p, c, e34, h34⟩ := hF.2 _ rfl (List.mem_of_elem_eq_true (by kernel_rfl))
         exact yieldsTo_val' (rn_extract rfl e34 rfl) ⟨Own.refl _, h34⟩
       intro v34; go_frame; have tok10 : True := trivial)
    | (clear tok10; refine sp_run (v := .int .i64 0) rfl (fun w' hw' hF => ?_) ?_
       · obtain ⟨p, c, e34, h34⟩ := hF.1.2 _ rfl (List.mem_of_elem_eq_true (by kernel_rfl))
         exact rn_extract rfl e34 rfl
       go_frame; have tok11 : True := trivial)
    | (clear tok11; refine sp_rel (IIn.mono _ _) rfl (fun w' hw' hF => yieldsTo_val' (rn_assign rfl rfl) ⟨Own.refl _, hF.2 _ rfl (List.mem_of_elem_eq_true (by kernel_rfl))⟩) ?_; intro v11; go_frame)
    | (refine sp_val (fun w' hw' hF => ?_) ⟨_, rfl, Nat.le_of_ble_eq_true rfl⟩ ?_
       · go_big_quiet_step (fail)
         exact rfl
       try go_frame))
  refine sp_nil ?_
  intro w6 hw' hF
  have h11 := hF.2 _ rfl trivial
  have h11b := h11.1
  obtain ⟨p11, c11, e11⟩ := h11b
  subst e11
  obtain ⟨gd, od, e11, _, hdc⟩ := h11.cellAt (by rw [hdl.out]; omega)
  subst e11
  have hdc' : Hid (∀ w' L, Own w6 w' L → (∀ j ∈ L.map (·.1), w6.heap.size ≤ j) → ∀ n, n < C → w'.cell? ⟨gd, od + n, none⟩ = some (.int .i64 (D n : Nat))) := fun w' L h hn n hnC => by
    have h0 := hdc n _ (hdn.out n hnC).1
    have h1 : gd < w6.heap.size := World.block_lt_of_cell? w6 _ h0
    exact h.old h0 (fun hm => by have := hn _ hm; omega)
  have H := H5.out.call0 hw'
  have hl10 : b10 < w6.heap.size := H.lt (.head _)
  have hl4 : b4 < w6.heap.size := H.lt (.tail _ (.head _))
  have c48 : Hid (∀ w' L, Own w6 w' L → (∀ j ∈ L.map (·.1), w6.heap.size ≤ j) → ∀ j v, (u8s (id ++ seed))[j]? = some v → w'.cell? ⟨b4, 0 + j, none⟩ = some v) := fun w' L h hn j v hj => h.old (by rw [H.cell (.tail _ (.head _)), Nat.zero_add]; exact hj) (fun hm => by have := hn _ hm; omega)
  have c16 : Hid (∀ w' L, Own w6 w' L → (∀ j ∈ L.map (·.1), w6.heap.size ≤ j) → ∀ j v, (u8s id)[j]? = some v → w'.cell? ⟨b4, 0 + j, none⟩ = some v) := fun w' L h hn j v hj => h.old (H.rowL (.tail _ (.head _)) j v hj) (fun hm => by have := hn _ hm; omega)
  have ccr : Hid (∀ w' L, Own w6 w' L → (∀ j ∈ L.map (·.1), w6.heap.size ≤ j) → BytesAt w' (.slice (some ⟨b10, 0, none⟩) 32 32) Cr) := fun w' L h hn => SlAt.own (Own.litM H (.head _) hCrl.out.symm) h (fun k hk hm => by have e : b10 = k := (blk_some hk).1; have := hn _ hm; omega)
  have H6 := Lib.hid H
  rw [hdl.out]
  clear hdc h11 hw' hF hhash hdig hsr hmo hcr hc16 H5 H hl10 hl4
  simp only [List.drop_succ_cons, List.drop_zero]
  have H := Own.refl w6
  have hnl := Lib.hid (length_numB cd 4)
  have hA36 : Hid ([] ++ numB cd 4 ++ Cr = numB cd 4 ++ Cr) := by show _ = _; rfl
  have hAl : Hid ((numB cd 4 ++ Cr).length = 36) := by show _ = _; rw [List.length_append, length_numB, hCrl.out]
  obtain ⟨A36, hA⟩ : ∃ a, a = numB cd 4 ++ Cr := ⟨_, rfl⟩
  rw [← hA] at hA36 hAl hsig
  clear hA
  have tok3 : True := trivial
  go_wp2_with (first
    | (clear tok3; refine st_new rfl (rn_alloc H rfl info_writer) ?_; clear H; intro b13 w7 hb13 H; have B : Buf 5 .u8 w6 w7 ((b13, [.slice none 0 0], 107) :: []) (.slice none 0 0) [] := Buf.nil H; clear H; have tok4 : True := trivial)
    | (clear tok4; go_at_call 62; refine (hcd.out _).mono ?_; rintro e w8 ⟨rfl, h3⟩; have B2 := B.call0 h3; clear B h3; have B := B2; clear B2; have tok5 : True := trivial)
    | (clear tok5; go_at_call 59; refine (num_any _ _ _ _ _ _ B cd 4 (by omega) (by omega) (by simp)).mono ?_; rintro e w9 ⟨rfl, v9, B2⟩; clear B; have B := B2; clear B2; have tok6 : True := trivial)
    | (refine st_val rfl (rn_sliceAll rfl rfl size_u8 rfl (by omega)) ?_)
    | (clear tok6; go_at_call 60; refine (raw_any _ _ _ _ _ _ B _ Cr (ccr.out _ _ B.own0 (by simpa using hb13)) (by rw [List.nil_append, hnl.out, hCrl.out]; decide)).mono ?_; rintro e w10 ⟨rfl, v10, B2⟩; rw [hA36.out] at B2; clear B; have B := B2; clear B2))
  go_loopw [14, 15, 44] (fun _ _ v44 wr => ∃ (i : Nat) (u : Value), i ≤ C ∧ v44 = .int .i64 ((i : Nat) : Int) ∧ Buf 5 .u8 w6 wr ((b13, [u], 107) :: []) u (A36 ++ flatX X i)) (fun _ _ v44 _ => ((C : Nat) - intOf v44).toNat)
  case atStart => exact ⟨0, v10, by omega, rfl, by rw [flatX_zero, List.append_nil]; exact B⟩
  case round =>
    clear B
    obtain ⟨i, u, hi, rfl, B⟩ := hrel
    have hbl := Lib.hid B.own0
    by_cases hin : i < C
    · have hd1 : Hid (∀ w' L, Own w6 w' L → (∀ j ∈ L.map (·.1), w6.heap.size ≤ j) → w'.cell? ⟨gd, od + i, none⟩ = some (.int .i64 (D i : Nat))) := fun w' L h hn => hdc'.out w' L h hn i hin
      have hal1 : Hid (∀ B w', B ≤ w'.heap.size → Calls Try.prog 86 #[.agg (u8s id).toArray, .int .i64 q, .int .i64 i] w' fun e w'' => ∃ r, e = .returned r ∧ IsCh B (pr i) w'' r ∧ Own w' w'' []) := fun B w' h => hal.out i B w' (by omega) h
      have hde1 : Hid (∀ w', Calls Try.prog 63 #[.agg (u8s (id ++ seed)).toArray, .int .i64 q, .int .i64 i] w' fun e w'' => e = .returned (.agg (u8s (S i)).toArray) ∧ Own w' w'' []) := fun w' => hde.out i w' (by omega)
      have hwk1 : Hid (∀ (B : Nat) (w0 w' : World) (L : List Ent) (v : Value), IsCh B (pr i) w' v → Own w0 w' L → w0.heap.size ≤ B → (∀ k ∈ L.map (·.1), k < B) → Calls Try.prog 87 #[v, .agg (u8s (S i)).toArray, .int .i64 0, .int .i64 (D i : Nat)] w' fun e w'' => e = .returned (.agg (u8s (X i)).toArray) ∧ ChE B w' w'' ∧ Own w0 w'' L) := fun B w0 w' L v h1 h2 h3 h4 => hwk.out i B w0 w' L v hin h1 h2 h3 h4
      have hxl := Lib.hid (hXl.out i)
      have hst : Hid (A36 ++ flatX X i ++ X i = A36 ++ flatX X (i + 1)) := by show _ = _; rw [flatX_succ, List.append_assoc]
      have hfl : Hid ((A36 ++ flatX X i).length = 36 + 32 * i) := by show _ = _; rw [List.length_append, hAl.out, length_flatX hXl.out]
      obtain ⟨Si, hSi⟩ : ∃ s, s = S i := ⟨_, rfl⟩
      obtain ⟨Xi, hXi⟩ : ∃ s, s = X i := ⟨_, rfl⟩
      obtain ⟨Di, hDi⟩ : ∃ s, s = D i := ⟨_, rfl⟩
      obtain ⟨pi, hpi⟩ : ∃ s, s = pr i := ⟨_, rfl⟩
      rw [← hSi, ← hXi, ← hDi, ← hpi] at hwk1
      rw [← hSi] at hde1
      rw [← hDi] at hd1
      rw [← hpi] at hal1
      rw [← hXi] at hxl hst
      clear hSi hXi hDi hpi
      obtain ⟨Lv, s1, s2, s3⟩ := B
      have hn2 : Hid (∀ k ∈ (Lv ++ [(b13, [u], 107)] : List Ent).map (·.1), w6.heap.size ≤ k) := fun k hk => by
        rw [List.map_append, List.mem_append] at hk
        rcases hk with hk | hk
        · exact s3 k hk
        · simp only [List.map_cons, List.map_nil, List.mem_cons, List.not_mem_nil, or_false] at hk
          subst hk; exact hb13
      have hB2 : Hid (∀ k ∈ (Lv ++ [(b13, [u], 107)] : List Ent).map (·.1), k < wr.heap.size) := fun k hk => by
        obtain ⟨x, hx, rfl⟩ := List.mem_map.1 hk
        exact s2.lt (b := x.1) (cs := x.2.1) (T := x.2.2) hx
      have hB0 := Lib.hid s2.size
      have S1 := Lib.hid s1
      have S2 := Lib.hid s2
      have S3 := Lib.hid s3
      clear s1 s2 s3 hbl
      go_wp2_with (refine st_val rfl (rn_cell rfl rfl rfl rfl (hd1.out _ _ S2.out hn2.out)) ?_)
      refine region_eff 12 (by kernel_rfl) (by kernel_rfl) (by kernel_rfl) [.val (.pointer (some ⟨b4, 0, none⟩)), .val (.agg (u8s id).toArray), .val (.int .i64 q), .val (.int .i64 i), .rel (IsCh wr.heap.size pi), .val (.agg (u8s (id ++ seed)).toArray), .val (.int .i64 q), .val (.int .i64 i), .val (.agg (u8s Si).toArray), .val (.int .i64 Di), .eff (ChE wr.heap.size) (fun _ v => v = .agg (u8s Xi).toArray), .rel (NewC wr.heap.size (u8s (List.replicate 32 0)) 28)] rfl ?_ (by kernel_rfl) (fun _ w' => Own w6 w' (Lv ++ [(b13, [u], 107)]) ∧ wr.heap.size ≤ w'.heap.size) ⟨S2.out, Nat.le_refl _⟩ (fun _ _ _ h1 h2 => ⟨h1.1.call0 h2, Nat.le_trans h1.2 h2.size⟩) ?_
      · simp only [eAll, eRow, Se.pres, or_true, true_and, and_true]
        exact ⟨Or.inr (Or.inr IsCh.presE), Or.inl trivial, Or.inr (Or.inr (NewC.presE (by decide)))⟩
      have tok3 : True := trivial
      try go_frame
      repeat (first
        | (clear tok3; refine se_run (v := .agg (u8s id).toArray) rfl (fun w' hw' _ => rn_cells rfl rfl rfl rfl hsz.out (by obtain ⟨_, h, _⟩ := hw'; exact c16.out _ _ h hn2.out)) ?_; go_frame; have tok4 : True := trivial)
        | (clear tok4; refine se_callR (args := #[.agg (u8s id).toArray, .int .i64 q, .int .i64 i]) IsCh.mono rfl rfl (by simp [Act.eval]) Try.func86 (by kernel_rfl) (by kernel_rfl) (fun w' hw' _ => hal1.out _ w' (by obtain ⟨_, _, h⟩ := hw'; exact h)) ?_; intro v53; go_frame; have tok6 : True := trivial)
        | (clear tok6; refine se_run (v := .agg (u8s (id ++ seed)).toArray) rfl (fun w' hw' _ => rn_cells rfl rfl rfl rfl hsz48.out (by obtain ⟨_, h, _⟩ := hw'; exact c48.out _ _ h hn2.out)) ?_; go_frame; have tok8 : True := trivial)
        | (clear tok8; refine se_callN (v := .agg (u8s Si).toArray) (args := #[.agg (u8s (id ++ seed)).toArray, .int .i64 q, .int .i64 i]) rfl rfl (by simp [Act.eval]) Try.func63 (by kernel_rfl) (by kernel_rfl) (fun w' _ _ => hde1.out w') ?_; go_frame; have tok10 : True := trivial)
        | (clear tok10; refine se_callE (args := #[v53, .agg (u8s Si).toArray, .int .i64 0, .int .i64 Di]) (fun _ _ _ _ h => h) rfl rfl rfl (by simp [Act.eval]) Try.func87 (by kernel_rfl) (by kernel_rfl) (fun w' hS hF => (hwk1.out _ _ _ _ _ (hF.2 _ rfl (List.mem_of_elem_eq_true (by kernel_rfl))) hS.1 hB0.out hB2.out).mono fun e w'' ⟨h1, h2, h3⟩ => ⟨_, h1, rfl, h2, h3, by obtain ⟨c, p, y1, y2, _, _, _, _, _, h⟩ := h2; exact Nat.le_trans hS.2 h.size⟩) ?_; intro v59; go_frame; have tok11 : True := trivial)
        | (clear tok11; refine se_rel NewC.mono rfl (fun w' hw' hF => newC_alloc rfl info_hash (by obtain ⟨_, _, h⟩ := hw'; exact h)) ?_; intro v16; go_frame)
        | (refine se_val (fun w' hw' hF => ?_) ⟨_, rfl, Nat.le_of_ble_eq_true rfl⟩ ?_
           · go_big_quiet_step (fail)
             exact rfl
           try go_frame))
      refine se_nil ?_
      intro w11 hS hF
      have e59 := hF.1.2 _ rfl trivial
      obtain ⟨g, e16, hg, hgc⟩ := hF.2 _ rfl trivial
      subst e59 e16
      have B : Buf 5 .u8 w6 w11 [(g, u8s (List.replicate 32 0), 28), (b13, [u], 107)] u (A36 ++ flatX X i) := ⟨Lv, S1.out, (Own.adopt hS.1 hgc (fun hm => by have := hB2.out _ hm; omega)).perm List.perm_middle.symm, S3.out⟩
      have hgn := Lib.hid (Nat.le_trans hB0.out hg)
      clear hS hF hg hgc hal1 hde1 hwk1 hn2 hB2 hB0 S1 S2 S3 hd1
      simp only [List.drop_succ_cons, List.drop_zero]
      have tok3 : True := trivial
      go_wp2_with (first
        | (clear tok3; refine st_bufPut (vs := u8s Xi) rfl B rfl rfl rfl (size_hashL hxl.out) (by rw [length_ints, length_ints, hxl.out]; rfl) (oneCell_ints _ _) ?_; clear B; intro w12 B; have B2 := B.perm (List.Perm.swap _ _ _); clear B; have B := B2; clear B2; have tok4 : True := trivial)
        | (refine st_val rfl (rn_sliceAll rfl rfl size_u8 rfl (by omega)) ?_)
        | (clear tok4; go_at_call 60; refine (raw_any _ _ _ _ _ _ B _ Xi (Own.litM (T := 28) B.own0 (.tail _ (.head _)) hxl.out.symm) (by rw [hfl.out, hxl.out]; omega)).mono ?_; rintro e w13 ⟨rfl, v13, B2⟩; rw [hst.out] at B2; clear B; have B3 := B2.perm (List.Perm.swap _ _ _); have B := B3.pop hgn.out; clear B2 B3))
      exact ⟨⟨i + 1, _, by omega, by go_num, B⟩, by simp [intOf]; omega⟩
    · obtain rfl : i = C := by omega
      rw [← hsig.out] at B
      have hRl : Hid (R.length ≤ 140737488355000) := by show _ ≤ _; rw [hsig.out, List.length_append, hAl.out, length_flatX hXl.out]; omega
      clear hbl
      go_wp2_with (go_at_call 61; refine (bytes_any _ b13 u R (B.own0.sub1 (.head _)) B.bytesAt B.lt hRl.out).mono ?_; rintro e w14 ⟨r, rfl, hr, h3⟩; have H := B.own0.call0 h3; clear B h3; have R7 := Lib.hid hr; clear hr)
      have h1 := Lib.hid (H.end0 (by simpa using hb13))
      go_ret2
      exact ⟨_, rfl, R7.out, (H6.out.call0 h1.out).end0 (by simp; omega)⟩

end Go.Proofs.Ytfihlmnbonnekaa
