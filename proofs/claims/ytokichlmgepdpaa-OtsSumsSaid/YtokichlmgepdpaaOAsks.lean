/- chirographlaw3: one of the widths. -/
import Derived.Test.YtokichlmgepdpaaOSame
import Derived.Test.YtokichlmgepdpaaRefV
namespace Go.Proofs.Ytokichlmgepdpaa
open Go.RowKit

set_option maxRecDepth 100000 in
theorem wide_at (w : World) (x : Int) (m : Nat) (hm : wrap64 ((IntKind.u64.wrap x).tmod 4) = (m : Int)) (hm4 : m < 4) :
    Calls Try.prog 20 #[.int .i64 x] w fun e w' => e = .returned (.int .i64 (([1, 2, 4, 2] : List Int)[m]?.getD 0)) ∧ Own w w' [] := by
  have H := Own.refl w
  have hv : ∃ v, ([1, 2, 4, 2] : List Int)[m]? = some v := ⟨_, List.getElem?_eq_getElem (by simpa using hm4)⟩
  obtain ⟨v, hv⟩ := hv
  have hv1 : Hid ((i64s [1, 2, 4, 2])[m]? = some (.int .i64 v)) := by show _ = _; unfold i64s ints; rw [List.getElem?_map, hv]; rfl
  rw [hv, Option.getD_some]
  clear hv
  go_enter Try.func20, Try.ntmps20
  go_wp2_with (first
    | (refine st_new rfl (rn_buildSlice (e := 3) (cs := i64s [1, 2, 4, 2]) H rfl (fun w' => by kernel_rfl)) ?_; clear H; intro b3 w1 hb3 H)
    | (refine st_val rfl (rn_load H rfl rfl (.head _) rfl rfl hv1.out) ?_))
  have h1 := Lib.hid (H.end0 (by simpa using hb3))
  go_ret
  exact ⟨rfl, h1.out⟩

theorem wide_any (x : Int) : ∃ k : Nat, (k = 1 ∨ k = 2 ∨ k = 4) ∧ ∀ w, Calls Try.prog 20 #[.int .i64 x] w fun e w' => e = .returned (.int .i64 k) ∧ Own w w' [] := by
  obtain ⟨m, hm, hm4⟩ := rem_wrap x 4 (by omega) (by omega)
  have h := fun w => wide_at w x m hm (by omega)
  have hc : m = 0 ∨ m = 1 ∨ m = 2 ∨ m = 3 := by omega
  rcases hc with rfl | rfl | rfl | rfl
  · exact ⟨1, Or.inl rfl, h⟩
  · exact ⟨2, Or.inr (Or.inl rfl), h⟩
  · exact ⟨4, Or.inr (Or.inr rfl), h⟩
  · exact ⟨2, Or.inr (Or.inl rfl), h⟩

set_option maxRecDepth 100000 in
set_option maxHeartbeats 8000000 in
theorem otsAsks_row (w : World) (ss : List Int) (h48 : ss.length = 48) (hsb : ∀ i, i < ss.length → 0 ≤ ss[i]?.getD 0 ∧ ss[i]?.getD 0 < 256) (q0 : Int) (_ : IntKind.i64.min ≤ q0) (_ : q0 ≤ IntKind.i64.max) (x0 : Int) (_ : IntKind.i64.min ≤ x0) (_ : x0 ≤ IntKind.i64.max)
    (mv : Value) (msg : List Int) (hm : BytesAt w mv msg) (hml : ∀ k, blk mv = some k → k < w.heap.size) (hmb : ∀ i, i < msg.length → 0 ≤ msg[i]?.getD 0 ∧ msg[i]?.getD 0 < 256)
    (sv : Value) (sig : List Int) (hs : BytesAt w sv sig) (hsl : ∀ k, blk sv = some k → k < w.heap.size) (hgb : ∀ i, i < sig.length → 0 ≤ sig[i]?.getD 0 ∧ sig[i]?.getD 0 < 256) :
    Calls Try.prog 6 #[.agg (u8s ss).toArray, .int .i64 q0, .int .i64 x0, mv, sv] w fun e w' => e = .returned (.bool true) ∧ Own w w' [] := by
  rename_i q1 q2 q3 q4
  clear q1 q2 q3 q4
  have H := Own.refl w
  have hO : Old w mv msg := ⟨hm, hml⟩
  have hS : Old w sv sig := ⟨hs, hsl⟩
  obtain ⟨pm, cm, rfl⟩ := hO.shape
  obtain ⟨ps, cs, rfl⟩ := hS.shape
  obtain ⟨n, hn⟩ : ∃ n, n = msg.length := ⟨_, rfl⟩
  obtain ⟨m, hmn⟩ : ∃ n, n = sig.length := ⟨_, rfl⟩
  rw [← hn] at hO ⊢
  rw [← hmn] at hS ⊢
  obtain ⟨id, seed, rfl, h16, h32⟩ := split48 h48
  have hidb : IsBytes id := isBytes_mem.2 fun x hx => isBytes_mem.1 hsb x (List.mem_append_left _ hx)
  have hseb : IsBytes seed := isBytes_mem.2 fun x hx => isBytes_mem.1 hsb x (List.mem_append_right _ hx)
  have hsz := Lib.hid (size_idL h16)
  have hsz48 := Lib.hid (size_secretL h16 h32)
  have hto := Lib.hid otold_any
  by_cases hbig : 300 < n
  · clear hm hml hmb hO hn h48 h16 h32 hs hsl hgb hS hmn hsb hidb hseb
    go_enter Try.func6, Try.ntmps6
    have tok1 : True := trivial
    go_wp2_with (first
      | (clear tok1; refine st_new rfl (rn_box (cs := u8s (id ++ seed)) H rfl rfl rfl) ?_; clear H; intro b5 w1 hb5 H; have tok2 : True := trivial)
      | (go_at_call 14; refine (hto.out _).mono ?_; rintro e w2 ⟨rfl, h3⟩; have H2 := H.call0 h3; clear H h3; have H := H2; clear H2))
    have h1 := Lib.hid (H.end0 (by simpa using hb5))
    go_ret
    exact ⟨rfl, h1.out⟩
  by_cases hbig2 : 200 < m
  · have hbig' : n ≤ 300 := by omega
    clear hm hml hmb hO hn h48 h16 h32 hs hsl hgb hS hmn hsb hidb hseb hbig
    go_enter Try.func6, Try.ntmps6
    have tok1 : True := trivial
    go_wp2_with (first
      | (clear tok1; refine st_new rfl (rn_box (cs := u8s (id ++ seed)) H rfl rfl rfl) ?_; clear H; intro b5 w1 hb5 H; have tok2 : True := trivial)
      | (go_at_call 14; refine (hto.out _).mono ?_; rintro e w2 ⟨rfl, h3⟩; have H2 := H.call0 h3; clear H h3; have H := H2; clear H2))
    have h1 := Lib.hid (H.end0 (by simpa using hb5))
    go_ret
    exact ⟨rfl, h1.out⟩
  · have hbig' : n ≤ 300 := by omega
    have hbig2' : m ≤ 200 := by omega
    have hOw := Lib.hid hO
    have hSw := Lib.hid hS
    obtain ⟨q, hqe, hq⟩ := rem_wrap q0 32 (by omega) (by omega)
    have hq32 : q < 32 := by omega
    obtain ⟨k, hk3, hwd0⟩ := wide_any x0
    have hwd := Lib.hid hwd0
    have hk : k = 1 ∨ k = 2 ∨ k = 4 ∨ k = 8 := by omega
    have hpub : Hid (∀ w', Calls Try.prog 17 #[.agg (u8s (id ++ seed)).toArray, .int .i64 q, .int .i64 k] w' fun e w'' => e = .returned (.tuple #[.agg (u8s (pubOf id seed q k)).toArray, .int .i64 0]) ∧ Own w' w'' []) := fun w' => public_any w' id seed h16 h32 q k hq32 hk
    have hrpub : Hid (∀ w', Calls Try.prog 22 #[.agg (u8s (id ++ seed)).toArray, .int .i64 q, .int .i64 k] w' fun e w'' => e = .returned (.agg (u8s (pubOf id seed q k)).toArray) ∧ Own w' w'' []) := fun w' => refPublic_any w' id seed h16 h32 hidb hseb q k hq32 hk
    obtain ⟨gl, hgl⟩ : ∃ g, g = 36 + 32 * chN k := ⟨_, rfl⟩
    have hsig : Hid (∀ w' v, Old w' v msg → Calls Try.prog 16 #[.agg (u8s (id ++ seed)).toArray, .int .i64 q, .int .i64 k, v] w' fun e w'' => ∃ p c, e = .returned (.tuple #[.slice p gl c, .int .i64 0]) ∧ Old w'' (.slice p gl c) (sigOf id seed q k msg) ∧ Own w' w'' []) := fun w' v h => signP_any w' id seed h16 h32 q k hq32 hk v msg h hmb (by omega) hgl
    have hrsig : Hid (∀ w' v, Old w' v msg → Calls Try.prog 23 #[.agg (u8s (id ++ seed)).toArray, .int .i64 q, .int .i64 k, v] w' fun e w'' => ∃ r, e = .returned r ∧ BIn (sigOf id seed q k msg) w'' r ∧ Own w' w'' []) := fun w' v h => refSign_any w' id seed h16 h32 hidb hseb q k hq32 hk v msg h hmb (by omega)
    have hcan : Hid (∀ w' v u, Old w' v msg → Old w' u sig → Calls Try.prog 18 #[.agg (u8s id).toArray, .int .i64 q, .int .i64 k, v, u] w' fun e w'' => e = .returned (.tuple #[.agg (u8s (candOf id q k msg sig)).toArray, .int .i64 (candE k sig)]) ∧ Own w' w'' []) := fun w' v u h1 h2 => cand_any w' id h16 q k hq32 hk v u msg sig h1 hmb (by omega) h2 hgb (by omega)
    have hrcan : Hid (∀ w' v u, Old w' v msg → Old w' u sig → Calls Try.prog 21 #[.agg (u8s id).toArray, .int .i64 q, .int .i64 k, v, u] w' fun e w'' => e = .returned (.tuple #[.agg (u8s (candOf id q k msg sig)).toArray, .int .i64 (candE k sig)]) ∧ Own w' w'' []) := fun w' v u h1 h2 => refCand_any w' id h16 hidb q k hq32 hk v u msg sig h1 hmb (by omega) h2 hgb
    have hsm : Hid (∀ w' v u, Old w' v (sigOf id seed q k msg) → BIn (sigOf id seed q k msg) w' u → Calls Try.prog 19 #[v, u] w' fun e w'' => e = .returned (.bool true) ∧ Own w' w'' []) := fun w' v u h1 h2 => by
      have h := same_any w' v u _ _ h1.1 h2.2.1 (isBytes_sigOf id seed q k msg) (isBytes_sigOf id seed q k msg)
      rw [decide_eq_true rfl] at h
      exact h
    obtain ⟨R, hR⟩ : ∃ R, R = pubOf id seed q k := ⟨_, rfl⟩
    have hRl : Hid (R.length = 32) := by show _ = _; rw [hR]; rfl
    obtain ⟨K, hK⟩ : ∃ R, R = candOf id q k msg sig := ⟨_, rfl⟩
    have hKl : Hid (K.length = 32) := by show _ = _; rw [hK]; exact length_candOf ..
    obtain ⟨E, hE⟩ : ∃ R, R = candE k sig := ⟨_, rfl⟩
    obtain ⟨sg, hsg⟩ : ∃ R, R = sigOf id seed q k msg := ⟨_, rfl⟩
    simp only [← hR, ← hsg, ← hK, ← hE] at hpub hsig hcan hrpub hrsig hrcan hsm
    have eZ : ∀ w, (Op.equalIn 10000 23 (.agg (u8s R).toArray) (.agg (u8s R).toArray)).run Try.prog w = .ok true w := fun w => by rw [eqHash w _ _ hRl.out hRl.out]; simp
    have eK : ∀ w, (Op.equalIn 10000 23 (.agg (u8s K).toArray) (.agg (u8s K).toArray)).run Try.prog w = .ok true w := fun w => by rw [eqHash w _ _ hKl.out hKl.out]; simp
    clear hm hml hmb hO hn h48 h16 h32 hs hsl hgb hS hmn hsb hidb hseb hR hsg hK hE hbig hbig2 hq hk hk3 hgl hwd0
    go_enter Try.func6, Try.ntmps6
    have tok1 : True := trivial
    go_wp2_with (first
      | (clear tok1; refine st_new rfl (rn_box (cs := u8s (id ++ seed)) H rfl rfl rfl) ?_; clear H; intro b5 w1 hb5 H; have tok2 : True := trivial)
      | (clear tok2; go_at_call 20; refine (hwd.out _).mono ?_; rintro e w2 ⟨rfl, h3⟩; have H2 := H.call0 h3; clear H h3; have H := H2; clear H2; have tok3 : True := trivial)
      | (clear tok3; refine st_val rfl (rn_loadAll (cs := u8s (id ++ seed)) H rfl rfl (.head _) rfl rfl hsz48.out) ?_; have tok4 : True := trivial)
      | (clear tok4; go_at_call 17; refine (hpub.out _).mono ?_; rintro e w3 ⟨rfl, h3⟩; have H2 := H.call0 h3; clear H h3; have H := H2; clear H2; have tok5 : True := trivial)
      | (clear tok5; refine st_new rfl (rn_alloc H rfl info_hash) ?_; clear H; intro b13 w4 hb13 H; have tok6 : True := trivial)
      | (clear tok6; refine st_skip rfl (rn_storeAll (vs := u8s R) H rfl rfl rfl (size_hashL hRl.out) .head (by rw [length_ints, length_ints, hRl.out]; rfl) (oneCell_ints _ _)) ?_; clear H; intro w5 H; have tok7 : True := trivial)
      | (clear tok7; refine st_val rfl (rn_loadAll (cs := u8s (id ++ seed)) H rfl rfl (.tail _ (.head _)) rfl rfl hsz48.out) ?_; have tok8 : True := trivial)
      | (clear tok8; go_at_call 16; refine (hsig.out _ _ (hOw.out.mv H (by simp; omega))).mono ?_; rintro e w6 ⟨pa, ca, rfl, hA, h3⟩; have A6 := Lib.hid hA; have H2 := H.call0 h3; have HW := Lib.hid H2; have M6 := Lib.hid (hOw.out.mv H2 (by simp; omega)); have S6 := Lib.hid (hSw.out.mv H2 (by simp; omega));
          have c5 := Lib.hid (fun (w' : World) (L : List Ent) (h : Own w6 w' L) (hn : ∀ k ∈ L.map (·.1), w6.heap.size ≤ k) => show ∀ j v, (u8s (id ++ seed))[j]? = some v → w'.cell? ⟨b5, 0 + j, none⟩ = some v from fun j v hj => h.old (by rw [HW.out.cell (.tail _ (.head _)), Nat.zero_add]; exact hj) (fun hm => by have := hn _ hm; have := HW.out.lt (.tail _ (.head _)); omega));
          have c5i := Lib.hid (fun (w' : World) (L : List Ent) (h : Own w6 w' L) (hn : ∀ k ∈ L.map (·.1), w6.heap.size ≤ k) => show ∀ j v, (u8s id)[j]? = some v → w'.cell? ⟨b5, 0 + j, none⟩ = some v from fun j v hj => h.old (HW.out.rowL (.tail _ (.head _)) j v hj) (fun hm => by have := hn _ hm; have := HW.out.lt (.tail _ (.head _)); omega));
          have c13 := Lib.hid (fun (w' : World) (L : List Ent) (h : Own w6 w' L) (hn : ∀ k ∈ L.map (·.1), w6.heap.size ≤ k) => show ∀ j v, (u8s R)[j]? = some v → w'.cell? ⟨b13, 0 + j, none⟩ = some v from fun j v hj => h.old (by rw [HW.out.cell (.head _), Nat.zero_add]; exact hj) (fun hm => by have := hn _ hm; have := HW.out.lt (.head _); omega));
          clear H H2 h3 hA; have H := Own.refl w6; have tok9 : True := trivial)
      | (clear tok9; refine st_val rfl (rn_cells rfl rfl rfl rfl hsz.out (c5i.out _ _ H (by simp))) ?_; have tok10 : True := trivial)
      | (clear tok10; go_at_call 18; refine (hcan.out _ _ _ (M6.out.mv H (by simp)) (S6.out.mv H (by simp))).mono ?_; rintro e w7 ⟨rfl, h3⟩; have H2 := H.call0 h3; clear H h3; have H := H2; clear H2; have tok11 : True := trivial)
      | (clear tok11; refine st_new rfl (rn_alloc H rfl info_hash) ?_; clear H; intro b17 w8 hb17 H; have tok12 : True := trivial)
      | (clear tok12; refine st_skip rfl (rn_storeAll (vs := u8s K) H rfl rfl rfl (size_hashL hKl.out) .head (by rw [length_ints, length_ints, hKl.out]; rfl) (oneCell_ints _ _)) ?_; clear H; intro w9 H; have tok13 : True := trivial)
      | (clear tok13; refine st_val rfl (rn_cells rfl rfl rfl rfl hsz.out (c5i.out _ _ H (by simp; omega))) ?_; have tok14 : True := trivial)
      | (clear tok14; go_at_call 21; refine (hrcan.out _ _ _ (M6.out.mv H (by simp; omega)) (S6.out.mv H (by simp; omega))).mono ?_; rintro e w10 ⟨rfl, h3⟩; have H2 := H.call0 h3; clear H h3; have H := H2; clear H2; have tok15 : True := trivial)
      | (clear tok15; refine st_new rfl (rn_alloc H rfl info_hash) ?_; clear H; intro b19 w11 hb19 H; have tok16 : True := trivial)
      | (clear tok16; refine st_skip rfl (rn_storeAll (vs := u8s K) H rfl rfl rfl (size_hashL hKl.out) .head (by rw [length_ints, length_ints, hKl.out]; rfl) (oneCell_ints _ _)) ?_; clear H; intro w12 H; have tok17 : True := trivial))
    have H12 := Lib.hid H
    have hmv : Hid (∀ w', Own w12 w' [] → ∃ L, Own w6 w' L ∧ ∀ k ∈ L.map (·.1), w6.heap.size ≤ k) := fun w' h => ⟨_, H12.out.call0 h, by simp; omega⟩
    clear H
    refine region_grow 36 (by kernel_rfl) (by kernel_rfl) (by kernel_rfl) [.val (.bool true), .val (.bool true), .val (.int .i64 0), .val (.bool true), .val (.bool true), .val (.bool true), .val (.agg (u8s R).toArray), .val (.agg (u8s (id ++ seed)).toArray), .val (.int .i64 q), .val (.int .i64 k), .val (.agg (u8s R).toArray), .val (.bool true), .val (.bool true), .val (.bool true), .val (.int .i64 0), .val (.bool true), .val (.bool true), .val (.bool true), .val (.slice pa gl ca), .val (.agg (u8s (id ++ seed)).toArray), .val (.int .i64 q), .val (.int .i64 k), .val (.slice pm n cm), .rel (BIn sg), .val (.bool true), .val (.bool true), .val (.bool true), .val (.agg (u8s K).toArray), .val (.agg (u8s K).toArray), .val (.bool true), .val (.bool true), .val (.bool true), .val (.int .i64 E), .val (.int .i64 E), .val (.bool true), .val (.bool true)] rfl ?_
    have tok3 : True := trivial
    try go_frame
    repeat (first
      | (clear tok3; refine sp_callN (v := .bool true) (args := #[]) rfl rfl (by simp) Try.func14 (by kernel_rfl) (by kernel_rfl) (fun w' _ _ => hto.out w') ?_; try go_frame; have tok4 : True := trivial)
      | (clear tok4; refine sp_run (v := .agg (u8s R).toArray) rfl (fun w' hw' _ => rn_cells rfl rfl rfl rfl (size_hashL hRl.out) (by obtain ⟨L, h1, h2⟩ := hmv.out w' hw'; exact c13.out _ _ h1 h2)) ?_; try go_frame; have tok5 : True := trivial)
      | (clear tok5; refine sp_run (v := .agg (u8s (id ++ seed)).toArray) rfl (fun w' hw' _ => rn_cells rfl rfl rfl rfl hsz48.out (by obtain ⟨L, h1, h2⟩ := hmv.out w' hw'; exact c5.out _ _ h1 h2)) ?_; try go_frame; have tok6 : True := trivial)
      | (clear tok6; refine sp_callN (v := .agg (u8s R).toArray) (args := #[.agg (u8s (id ++ seed)).toArray, .int .i64 q, .int .i64 k]) rfl rfl (by simp [Act.eval]) Try.func22 (by kernel_rfl) (by kernel_rfl) (fun w' _ _ => hrpub.out w') ?_; try go_frame; have tok7 : True := trivial)
      | (clear tok7; refine sp_run (v := .agg (u8s (id ++ seed)).toArray) rfl (fun w' hw' _ => rn_cells rfl rfl rfl rfl hsz48.out (by obtain ⟨L, h1, h2⟩ := hmv.out w' hw'; exact c5.out _ _ h1 h2)) ?_; try go_frame; have tok8 : True := trivial)
      | (clear tok8; refine sp_callR (args := #[.agg (u8s (id ++ seed)).toArray, .int .i64 q, .int .i64 k, .slice pm n cm]) (BIn.mono _) rfl rfl (by simp [Act.eval]) Try.func23 (by kernel_rfl) (by kernel_rfl) (fun w' hw' _ => by obtain ⟨L, h1, h2⟩ := hmv.out w' hw'; exact hrsig.out w' _ (M6.out.mv h1 h2)) ?_; intro v94; try go_frame; have tok9 : True := trivial)
      | (clear tok9; refine sp_callN (v := .bool true) (args := #[.slice pa gl ca, v94]) rfl rfl (by simp [Act.eval]) Try.func19 (by kernel_rfl) (by kernel_rfl) (fun w' hw' hF => by obtain ⟨L, h1, h2⟩ := hmv.out w' hw'; exact hsm.out w' _ _ (A6.out.mv h1 h2) (hF.2 _ rfl (List.mem_of_elem_eq_true (by kernel_rfl)))) ?_; try go_frame; have tok10 : True := trivial)
      | (clear tok10; refine sp_run (v := .agg (u8s K).toArray) rfl (fun w' hw' _ => rn_cells rfl rfl rfl rfl (size_hashL hKl.out) (fun j v hj => by rw [(H12.out.call0 hw').cell (.tail _ (.head _)), Nat.zero_add]; exact hj)) ?_; try go_frame; have tok11 : True := trivial)
      | (clear tok11; refine sp_run (v := .agg (u8s K).toArray) rfl (fun w' hw' _ => rn_cells rfl rfl rfl rfl (size_hashL hKl.out) (fun j v hj => by rw [(H12.out.call0 hw').cell (.head _), Nat.zero_add]; exact hj)) ?_; try go_frame; have tok12 : True := trivial)
      | (refine sp_val (fun w' hw' hF => ?_) ⟨_, rfl, Nat.le_of_ble_eq_true rfl⟩ ?_
         · go_big_quiet_step (fail)
           first
             | exact rfl
             | (simp only [beq_self_eq_true]; exact rfl)
         try go_frame))
    refine sp_nil ?_
    intro w13 hw' hF
    have h1 : Hid (Own w w13 []) := (HW.out.end0 (by simp; omega)).trans ((H12.out.call0 hw').end0 (by simp; omega))
    clear hw' hF
    simp only [List.drop_succ_cons, List.drop_zero]
    go_wp2_with fail
    go_ret
    exact ⟨rfl, h1.out⟩

end Go.Proofs.Ytokichlmgepdpaa
