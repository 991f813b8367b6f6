/- ots: Public. -/
import Derived.Test.YtfihlmnbonnekaaPrg3
namespace Go.Proofs.Ytfihlmnbonnekaa
open Go.RowKit

set_option maxRecDepth 100000 in
set_option maxHeartbeats 4000000 in
theorem pubcl_any (w : World) (id seed : List Int) (h16 : id.length = 16) (h32 : seed.length = 32) (q i t : Nat) (hq : q < 32) (hi : i < 300) (ht : t ≤ 255) (p3 p4 p8 : Nat)
    (h48 : ∀ j v, (u8s (id ++ seed))[j]? = some v → w.cell? ⟨p3, 0 + j, none⟩ = some v) (h4 : w.cell? ⟨p4, 0, none⟩ = some (.int .i64 q)) (h8 : w.cell? ⟨p8, 0, none⟩ = some (.int .i64 t)) (hlt : p3 < w.heap.size ∧ p4 < w.heap.size ∧ p8 < w.heap.size) :
    Calls Try.prog 107 #[.int .i64 i, .pointer (some ⟨p3, 0, none⟩), .pointer (some ⟨p4, 0, none⟩), .pointer (some ⟨p8, 0, none⟩)] w fun e w' => e = .returned (.agg (u8s (chainOf id seed q (fun _ => t) i)).toArray) ∧ Own w w' [] := by
  have H := Own.refl w
  have hal : Hid (∀ B w', B ≤ w'.heap.size → Calls Try.prog 86 #[.agg (u8s id).toArray, .int .i64 q, .int .i64 i] w' fun e w'' => ∃ r, e = .returned r ∧ IsCh B (pre22 id q i) w'' r ∧ Own w' w'' []) := fun B w' h => along_ch B w' id h16 q i hq (by omega) h
  have hde : Hid (∀ w', Calls Try.prog 63 #[.agg (u8s (id ++ seed)).toArray, .int .i64 q, .int .i64 i] w' fun e w'' => e = .returned (.agg (u8s (secretOf id seed q i)).toArray) ∧ Own w' w'' []) := fun w' => derive_any w' id seed h16 h32 q i hq (by omega)
  have hR : stepsC (pre22 id q i) 0 (secretOf id seed q i) (t - 0) = chainOf id seed q (fun _ => t) i := rfl
  obtain ⟨R, hR1⟩ : ∃ R, R = chainOf id seed q (fun _ => t) i := ⟨_, rfl⟩
  have hRl : Hid (R.length = 32) := by show _ = _; rw [hR1]; exact length_chainOf ..
  obtain ⟨S, hS⟩ : ∃ S, S = secretOf id seed q i := ⟨_, rfl⟩
  have hSl : S.length = 32 := by rw [hS]; rfl
  rw [← hR1] at hR ⊢
  rw [← hS] at hde hR
  obtain ⟨pre, hpre⟩ : ∃ p, p = pre22 id q i := ⟨_, rfl⟩
  rw [← hpre] at hal hR
  have hwk : Hid (∀ (B : Nat) (w0 w' : World) (L : List Ent) (v : Value), IsCh B pre w' v → Own w0 w' L → w0.heap.size ≤ B → (∀ k ∈ L.map (·.1), k < B) → Calls Try.prog 87 #[v, .agg (u8s S).toArray, .int .i64 0, .int .i64 t] w' fun e w'' => e = .returned (.agg (u8s R).toArray) ∧ ChE B w' w'' ∧ Own w0 w'' L) := fun B w0 w' L v h1 h2 h3 h4 => by
    have h := walk_ch h1 h2 h3 h4 0 t (by omega) (by omega) S hSl
    rw [hR] at h
    exact h
  have hsz := Lib.hid (size_idL h16)
  have hsz48 := Lib.hid (size_secretL h16 h32)
  obtain ⟨hl3, hl4, hl8⟩ := hlt
  have c48 : Hid (∀ w' L, Own w w' L → (∀ k ∈ L.map (·.1), w.heap.size ≤ k) → ∀ j v, (u8s (id ++ seed))[j]? = some v → w'.cell? ⟨p3, 0 + j, none⟩ = some v) := fun w' L h hn j v hj => h.old (h48 j v hj) (fun hm => by have := hn _ hm; omega)
  have c16 : Hid (∀ w' L, Own w w' L → (∀ k ∈ L.map (·.1), w.heap.size ≤ k) → ∀ j v, (u8s id)[j]? = some v → w'.cell? ⟨p3, 0 + j, none⟩ = some v) := fun w' L h hn j v hj => c48.out w' L h hn j v (by
    have hjl : j < (u8s id).length := (List.getElem?_eq_some_iff.1 hj).1
    rw [show u8s (id ++ seed) = u8s id ++ u8s seed from ints_append .., List.getElem?_append_left hjl]; exact hj)
  have c4 : Hid (∀ w' L, Own w w' L → (∀ k ∈ L.map (·.1), w.heap.size ≤ k) → w'.cell? ⟨p4, 0, none⟩ = some (.int .i64 q)) := fun w' L h hn => h.old h4 (fun hm => by have := hn _ hm; omega)
  have c8 : Hid (∀ w' L, Own w w' L → (∀ k ∈ L.map (·.1), w.heap.size ≤ k) → w'.cell? ⟨p8, 0, none⟩ = some (.int .i64 t)) := fun w' L h hn => h.old h8 (fun hm => by have := hn _ hm; omega)
  clear hR hR1 hS hSl hpre h48 h4 h8 hl3 hl4 hl8 h16 h32
  go_enter Try.func107, Try.ntmps107
  go_wp2_with (refine st_new rfl (rn_alloc H rfl info_hash) ?_; clear H; intro b5 w2 hb5 H)
  have hBk : Hid (∀ k ∈ ([(b5, u8s (List.replicate 32 0), 28)] : List Ent).map (·.1), k < w2.heap.size) := fun k hk => by
    simp only [List.map_cons, List.map_nil, List.mem_cons, List.not_mem_nil, or_false] at hk
    subst hk
    exact H.lt (.head _)
  have hBn : Hid (∀ k ∈ ([(b5, u8s (List.replicate 32 0), 28)] : List Ent).map (·.1), w.heap.size ≤ k) := fun k hk => by
    simp only [List.map_cons, List.map_nil, List.mem_cons, List.not_mem_nil, or_false] at hk
    subst hk
    exact hb5
  have hB0 := Lib.hid H.size
  have H2' := Lib.hid H
  clear H
  refine region_eff 11 (by kernel_rfl) (by kernel_rfl) (by kernel_rfl) [.val (.pointer (some ⟨p3, 0, none⟩)), .val (.agg (u8s id).toArray), .val (.int .i64 q), .val (.int .i64 i), .rel (IsCh w2.heap.size pre), .val (.agg (u8s (id ++ seed)).toArray), .val (.int .i64 q), .val (.int .i64 i), .val (.agg (u8s S).toArray), .val (.int .i64 t), .eff (ChE w2.heap.size) (fun _ v => v = .agg (u8s R).toArray)] rfl ?_ (by kernel_rfl) (fun _ w' => Own w w' [(b5, u8s (List.replicate 32 0), 28)] ∧ w2.heap.size ≤ w'.heap.size) ⟨H2'.out, Nat.le_refl _⟩ (fun _ _ _ h1 h2 => ⟨h1.1.call0 h2, Nat.le_trans h1.2 h2.size⟩) ?_
  · simp only [eAll, eRow, Se.pres, or_true, true_and, and_true]
    exact ⟨Or.inr (Or.inr IsCh.presE), Or.inl trivial⟩
  have tok3 : True := trivial
  try go_frame
  repeat (first
    | (clear tok3; refine se_run (v := .agg (u8s id).toArray) rfl (fun w' hw' _ => rn_cells rfl rfl rfl rfl hsz.out (by obtain ⟨_, h, _⟩ := hw'; exact c16.out _ _ h hBn.out)) ?_; go_frame; have tok4 : True := trivial)
    | (clear tok4; refine se_run (v := .int .i64 q) rfl (fun w' hw' _ => rn_cell rfl rfl rfl rfl (by obtain ⟨_, h, _⟩ := hw'; exact c4.out _ _ h hBn.out)) ?_; go_frame; have tok5 : True := trivial)
    | (clear tok5; refine se_callR (args := #[.agg (u8s id).toArray, .int .i64 q, .int .i64 i]) IsCh.mono rfl rfl (by simp [Act.eval]) Try.func86 (by kernel_rfl) (by kernel_rfl) (fun w' hw' _ => hal.out _ w' (by obtain ⟨_, _, h⟩ := hw'; exact h)) ?_; intro v10; go_frame; have tok6 : True := trivial)
    | (clear tok6; refine se_run (v := .agg (u8s (id ++ seed)).toArray) rfl (fun w' hw' _ => rn_cells rfl rfl rfl rfl hsz48.out (by obtain ⟨_, h, _⟩ := hw'; exact c48.out _ _ h hBn.out)) ?_; go_frame; have tok7 : True := trivial)
    | (clear tok7; refine se_run (v := .int .i64 q) rfl (fun w' hw' _ => rn_cell rfl rfl rfl rfl (by obtain ⟨_, h, _⟩ := hw'; exact c4.out _ _ h hBn.out)) ?_; go_frame; have tok8 : True := trivial)
    | (clear tok8; refine se_callN (v := .agg (u8s S).toArray) (args := #[.agg (u8s (id ++ seed)).toArray, .int .i64 q, .int .i64 i]) rfl rfl (by simp [Act.eval]) Try.func63 (by kernel_rfl) (by kernel_rfl) (fun w' _ _ => hde.out w') ?_; go_frame; have tok9 : True := trivial)
    | (clear tok9; refine se_run (v := .int .i64 t) rfl (fun w' hw' _ => rn_cell rfl rfl rfl rfl (by obtain ⟨_, h, _⟩ := hw'; exact c8.out _ _ h hBn.out)) ?_; go_frame; have tok10 : True := trivial)
    | (clear tok10; refine se_callE (args := #[v10, .agg (u8s S).toArray, .int .i64 0, .int .i64 t]) (fun _ _ _ _ h => h) rfl rfl rfl (by simp [Act.eval]) Try.func87 (by kernel_rfl) (by kernel_rfl) (fun w' hS hF => (hwk.out _ _ _ _ _ (hF.2 _ rfl (List.mem_of_elem_eq_true (by kernel_rfl))) hS.1 hB0.out hBk.out).mono fun e w'' ⟨h1, h2, h3⟩ => ⟨_, h1, rfl, h2, h3, by obtain ⟨c, p, y1, y2, _, _, _, _, _, h⟩ := h2; exact Nat.le_trans hS.2 h.size⟩) ?_; intro v16; go_frame)
    | (refine se_val (fun w' hw' hF => ?_) ⟨_, rfl, Nat.le_of_ble_eq_true rfl⟩ ?_
       · go_big_quiet_step (fail)
         exact rfl
       try go_frame))
  refine se_nil ?_
  intro w5 hS hF
  have H := hS.1
  have e14 := hF.2 _ rfl trivial
  subst e14
  clear hS hF H2' hal hde hwk hBk hB0 hBn
  simp only [List.drop_succ_cons, List.drop_zero]
  go_wp2_with (refine st_skip rfl (rn_storeAll (vs := u8s R) H rfl rfl rfl (size_hashL hRl.out) .head (by rw [length_ints, length_ints, hRl.out]; rfl) (oneCell_ints _ _)) ?_; clear H; intro w8 H)
  refine fin_cell rfl H rfl (.head _) rfl rfl (size_hashL hRl.out) rfl ⟨rfl, ?_⟩
  exact H.end0 (by simpa using hb5)

theorem may_k {q k : Nat} (hq : q < 32) (hk : k = 1 ∨ k = 2 ∨ k = 4 ∨ k = 8) : mayB q k = true := by
  have h1 : decide ((0 : Int) ≤ q) = true := decide_eq_true (by omega)
  have h2 : decide ((q : Int) < 32) = true := decide_eq_true (by omega)
  unfold mayB
  rw [h1, h2]
  rcases hk with rfl | rfl | rfl | rfl <;> rfl

theorem info_int : ((Try.prog.info? 3).bind (·.zero)).map (fun z => z.cells.toList) = some [.int .i64 0] := by kernel_rfl

set_option maxRecDepth 100000 in
set_option maxHeartbeats 4000000 in
theorem public_any (w : World) (id seed : List Int) (h16 : id.length = 16) (h32 : seed.length = 32) (q k : Nat) (hq : q < 32) (hk : k = 1 ∨ k = 2 ∨ k = 4 ∨ k = 8) :
    Calls Try.prog 92 #[.agg (u8s (id ++ seed)).toArray, .int .i64 q, .int .i64 k] w fun e w' => e = .returned (.tuple #[.agg (u8s (pubOf id seed q k)).toArray, .int .i64 0]) ∧ Own w w' [] := by
  have H := Own.refl w
  have hmay : Hid (∀ w', Calls Try.prog 81 #[.int .i64 q, .int .i64 k] w' fun e w'' => e = .returned (.bool true) ∧ Own w' w'' []) := fun w' => by rw [← may_k hq hk]; exact may_any w' q k
  obtain ⟨t, ht255, _, ht2, hsh⟩ := two_pow hk
  have hk8 : k ≤ 8 := by omega
  have hkey : Hid (∀ w' p3 p4 p8, (∀ j v, (u8s (id ++ seed))[j]? = some v → w'.cell? ⟨p3, 0 + j, none⟩ = some v) → w'.cell? ⟨p4, 0, none⟩ = some (.int .i64 q) → w'.cell? ⟨p8, 0, none⟩ = some (.int .i64 t) → p3 < w'.heap.size ∧ p4 < w'.heap.size ∧ p8 < w'.heap.size →
      Calls Try.prog 84 #[.agg (u8s id).toArray, .int .i64 q, .int .i64 k, .func (.func 107) #[] #[.pointer (some ⟨p3, 0, none⟩), .pointer (some ⟨p4, 0, none⟩), .pointer (some ⟨p8, 0, none⟩)]] w' fun e w'' => e = .returned (.agg (u8s (pubOf id seed q k)).toArray) ∧ Own w' w'' []) := fun w' p3 p4 p8 h1 h2 h3 h4 => by
    have h := key_any w' id h16 q k hq hk 107 _ #[.pointer (some ⟨p3, 0, none⟩), .pointer (some ⟨p4, 0, none⟩), .pointer (some ⟨p8, 0, none⟩)] Try.func107 (by kernel_rfl) (by kernel_rfl) (fun _ Lr => Lr = []) [] (fun _ Lr h => by rw [h]; rfl) (chainOf id seed q fun _ => t) (fun i => length_chainOf ..) (fun i => isBytes_chainOf _ _ _ _ i) ⟨[], rfl, Own.refl w'⟩ (fun i hi w2 L Lr hL h5 h6 => by
      subst hL
      rw [List.append_nil] at h5
      refine Calls.mono (pubcl_any w2 id seed h16 h32 q i t hq (by have := (chN_le k).2; omega) ht255 p3 p4 p8 (fun j v hj => h5.old (h1 j v hj) (fun hm => by have := h6 _ hm; omega)) (h5.old h2 (fun hm => by have := h6 _ hm; omega)) (h5.old h3 (fun hm => by have := h6 _ hm; omega)) ⟨Nat.lt_of_lt_of_le h4.1 h5.size, Nat.lt_of_lt_of_le h4.2.1 h5.size, Nat.lt_of_lt_of_le h4.2.2 h5.size⟩) ?_
      rintro e w3 ⟨h7, h8⟩
      exact ⟨h7, [], rfl, h8⟩)
    have h := h.mono (fun e w3 ⟨h7, Lr, h8, h9⟩ => show _ ∧ Own w' w3 [] from ⟨h7, by rw [h8] at h9; exact h9⟩)
    rw [show endsOf id q (flatX (chainOf id seed q fun _ => t) (chN k)) = pubOf id seed q k by rw [ht2]; rfl] at h
    exact h
  obtain ⟨R, hR⟩ : ∃ R, R = pubOf id seed q k := ⟨_, rfl⟩
  have hRl : Hid (R.length = 32) := by show _ = _; rw [hR]; rfl
  rw [← hR] at hkey ⊢
  have hsz := Lib.hid (size_idL h16)
  clear hR h16 h32 hk ht2
  go_enter Try.func92, Try.ntmps92
  have tok1 : True := trivial
  go_wp2_with (first
    | (clear tok1; refine st_new rfl (rn_box (cs := u8s (id ++ seed)) H rfl rfl rfl) ?_; clear H; intro b3 w1 hb3 H; have tok2 : True := trivial)
    | (clear tok2; refine st_new rfl (rn_box (cs := i64s [(q : Int)]) H rfl rfl rfl) ?_; clear H; intro b4 w2 hb4 H; have tok3 : True := trivial)
    | (clear tok3; refine st_new rfl (rn_alloc H rfl info_hash) ?_; clear H; intro b6 w3 hb6 H; have tok4 : True := trivial)
    | (refine st_val rfl (rn_load H rfl rfl (.tail _ (.head _)) rfl rfl rfl) ?_)
    | (refine st_val rfl (rn_load H rfl rfl (.tail _ (.tail _ (.head _))) rfl rfl rfl) ?_)
    | (clear tok4; go_at_call 81; refine (hmay.out _).mono ?_; rintro e w4 ⟨rfl, h3⟩; have H2 := H.call0 h3; clear H h3; have H := H2; clear H2; have tok5 : True := trivial)
    | (clear tok5; refine st_new rfl (rn_alloc H rfl info_int) ?_; clear H; intro b8 w5 hb8 H; have tok6 : True := trivial)
    | (clear tok6; refine st_skip rfl (rn_store (v := .int .i64 t) H rfl rfl rfl (by kernel_rfl) .head (by simp) rfl) ?_; clear H; intro w6 H; have tok7 : True := trivial)
    | (clear tok7; refine st_val rfl (rn_cells rfl rfl rfl rfl hsz.out (fun j v hj => H.rowL (.tail _ (.tail _ (.tail _ (.head _)))) j v hj)) ?_; have tok8 : True := trivial)
    | (clear tok8; go_at_call 84; refine (hkey.out _ b3 b4 b8 (fun j v hj => by rw [H.cell (.tail _ (.tail _ (.tail _ (.head _)))), Nat.zero_add]; exact hj) (H.cell (.tail _ (.tail _ (.head _))) 0) (H.cell (.head _) 0) ⟨H.lt (.tail _ (.tail _ (.tail _ (.head _)))), H.lt (.tail _ (.tail _ (.head _))), H.lt (.head _)⟩).mono ?_; rintro e w7 ⟨rfl, h3⟩; have H2 := H.call0 h3; clear H h3; have H := H2; clear H2; have tok9 : True := trivial)
    | (clear tok9; refine st_skip rfl (rn_storeAll (vs := u8s R) H rfl rfl rfl (size_hashL hRl.out) (.tail .head) (by rw [length_ints, length_ints, hRl.out]; rfl) (oneCell_ints _ _)) ?_; clear H; intro w9 H))
  refine fin_cell2 (cs := u8s R) rfl H rfl (.tail _ (.head _)) rfl rfl (size_hashL hRl.out) rfl rfl ⟨rfl, ?_⟩
  exact H.end0 (by simp; omega)

end Go.Proofs.Ytfihlmnbonnekaa
