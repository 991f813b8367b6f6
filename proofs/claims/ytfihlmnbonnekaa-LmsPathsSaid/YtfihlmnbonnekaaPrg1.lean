/- ots: Derive. -/
import Derived.Test.YtfihlmnbonnekaaRefR
namespace Go.Proofs.Ytfihlmnbonnekaa
open Go.RowKit

theorem Own.young {w0 w w' : World} {L : List Ent} {c : Nat} {cs : List Value} {T : TypeId} (H : Own w0 w L) (hu : Own w w' [(c, cs, T)]) (hc : w0.heap.size ≤ c) (hn : c ∉ L.map (·.1)) : Own w0 w' L := by
  refine ⟨hu.os.trans H.os, hu.tape.trans H.tape, hu.output.trans H.output, Nat.le_trans H.size hu.size, fun k hk hkn => ?_, H.nodup, fun b cs1 T1 hm => ?_⟩
  · rw [hu.keep k (Nat.lt_of_lt_of_le hk H.size) (by simp; omega)]
    exact H.keep k hk hkn
  · rw [hu.keep b (H.lt hm) (by simp; rintro rfl; exact hn (List.mem_map.2 ⟨_, hm, rfl⟩))]
    exact H.here b cs1 T1 hm

/-- a chain that is not older than B -/
def IsCh (B : Nat) (pre : List Int) : World → Value → Prop := fun w v => ∃ c ys, v = .pointer (some ⟨c, 0, none⟩) ∧ B ≤ c ∧ pre.length = 22 ∧ ys.length = 33 ∧ w.heap[c]? = some (.cells (u8s (pre ++ ys)).toArray 159 (0, 0))
theorem IsCh.mono {B : Nat} {pre : List Int} : Mono (IsCh B pre) := fun w1 w2 v h ⟨c, ys, h1, h2, h3, h4, h5⟩ => ⟨c, ys, h1, h2, h3, h4, by rw [h.keep c (Array.getElem?_eq_some_iff.1 h5).1 (by simp)]; exact h5⟩
/-- a step that turns such a chain's last bytes -/
def ChE (B : Nat) : World → World → Prop := fun w1 w2 => ∃ c pre ys ys', B ≤ c ∧ pre.length = 22 ∧ ys.length = 33 ∧ ys'.length = 33 ∧ w1.heap[c]? = some (.cells (u8s (pre ++ ys)).toArray 159 (0, 0)) ∧ Own w1 w2 [(c, u8s (pre ++ ys'), 159)]
theorem IsCh.presE {B : Nat} {pre : List Int} : ∀ w1 w2 v, ChE B w1 w2 → IsCh B pre w1 v → IsCh B pre w2 v := fun w1 w2 v ⟨c, p0, ys, ys', hB, hp, hy, hy', hc, ho⟩ ⟨d, zs, h1, h2, h3, h4, h5⟩ => by
  by_cases e : d = c
  · subst e
    rw [hc] at h5
    have e1 : u8s (p0 ++ ys) = u8s (pre ++ zs) := by
      have := Option.some.inj h5
      simp only [Obj.cells.injEq, and_true] at this
      simpa using congrArg Array.toList this
    have e2 : p0 = pre := by
      have e3 : p0 ++ ys = pre ++ zs := (List.map_inj_right (fun x y h => by cases h; rfl)).1 e1
      have h6 := congrArg (List.take 22) e3
      rwa [List.take_left' hp, List.take_left' h3] at h6
    subst e2
    exact ⟨d, ys', h1, h2, h3, hy', ho.here _ _ _ (.head _)⟩
  · exact ⟨d, zs, h1, h2, h3, h4, by rw [ho.keep d (Array.getElem?_eq_some_iff.1 h5).1 (by simpa using e)]; exact h5⟩
theorem NewC.presE {B : Nat} {cs : List Value} {T : TypeId} (hT : T ≠ 159) : ∀ w1 w2 v, ChE B w1 w2 → NewC B cs T w1 v → NewC B cs T w2 v := fun w1 w2 v ⟨c, p0, ys, ys', hB, hp, hy, hy', hc, ho⟩ ⟨d, h1, h2, h5⟩ => by
  have e : d ≠ c := by
    rintro rfl
    rw [hc] at h5
    have := Option.some.inj h5
    simp only [Obj.cells.injEq, and_true] at this
    exact hT this.2.symm
  exact ⟨d, h1, h2, by rw [ho.keep d (Array.getElem?_eq_some_iff.1 h5).1 (by simpa using e)]; exact h5⟩

/-- one hash of such a chain -/
theorem one_ch {B : Nat} {pre : List Int} {w0 w : World} {L : List Ent} {v : Value} (hv : IsCh B pre w v) (H : Own w0 w L) (hB : w0.heap.size ≤ B) (hL : ∀ k ∈ L.map (·.1), k < B) (n : Nat) (hn : n < 256) (x : List Int) (hx : x.length = 32) :
    Calls Try.prog 93 #[v, .int .i64 n, .agg (u8s x).toArray] w fun e w' => e = .returned (.agg (u8s (sha (pre ++ (n : Int) :: x))).toArray) ∧ ChE B w w' ∧ Own w0 w' L := by
  obtain ⟨c, ys, rfl, h2, h3, h4, h5⟩ := hv
  refine (one_any w c n pre ys x hn h3 h4 hx (Own.one h5)).mono ?_
  rintro e w' ⟨rfl, ho⟩
  exact ⟨rfl, ⟨c, pre, ys, _, h2, h3, h4, length_cons33 hx, h5, ho⟩, H.young ho (by omega) (fun hm => by have := hL _ hm; omega)⟩
theorem walk_ch {B : Nat} {pre : List Int} {w0 w : World} {L : List Ent} {v : Value} (hv : IsCh B pre w v) (H : Own w0 w L) (hB : w0.heap.size ≤ B) (hL : ∀ k ∈ L.map (·.1), k < B) (f t : Nat) (hft : f ≤ t) (ht : t ≤ 256) (x : List Int) (hx : x.length = 32) :
    Calls Try.prog 87 #[v, .agg (u8s x).toArray, .int .i64 f, .int .i64 t] w fun e w' => e = .returned (.agg (u8s (stepsC pre f x (t - f))).toArray) ∧ ChE B w w' ∧ Own w0 w' L := by
  obtain ⟨c, ys, rfl, h2, h3, h4, h5⟩ := hv
  refine (walk_any w c f t pre ys x hft ht h3 h4 hx (Own.one h5)).mono ?_
  rintro e w' ⟨rfl, ys', hy', ho⟩
  exact ⟨rfl, ⟨c, pre, ys, ys', h2, h3, h4, hy', h5, ho⟩, H.young ho (by omega) (fun hm => by have := hL _ hm; omega)⟩
theorem along_ch (B : Nat) (w : World) (id : List Int) (h16 : id.length = 16) (q i : Nat) (hq : q < 32) (hi : i < 65536) (hB : B ≤ w.heap.size) :
    Calls Try.prog 86 #[.agg (u8s id).toArray, .int .i64 q, .int .i64 i] w fun e w' => ∃ r, e = .returned r ∧ IsCh B (pre22 id q i) w' r ∧ Own w w' [] :=
  (along_any w id h16 q i hq hi).mono fun e w' ⟨c, h1, h2, h3⟩ => ⟨_, h1, ⟨c, _, rfl, Nat.le_trans hB h2, length_pre22 h16 q i, by simp, h3.here _ _ _ (.head _)⟩, h3.end0 (by simpa using h2)⟩

set_option maxRecDepth 100000 in
set_option maxHeartbeats 4000000 in
theorem derive_any (w : World) (id seed : List Int) (h16 : id.length = 16) (h32 : seed.length = 32) (q n : Nat) (hq : q < 32) (hn : n < 65536) :
    Calls Try.prog 63 #[.agg (u8s (id ++ seed)).toArray, .int .i64 q, .int .i64 n] w fun e w' => e = .returned (.agg (u8s (secretOf id seed q n)).toArray) ∧ Own w w' [] := by
  have H := Own.refl w
  have hal : Hid (∀ B w', B ≤ w'.heap.size → Calls Try.prog 86 #[.agg (u8s id).toArray, .int .i64 q, .int .i64 n] w' fun e w'' => ∃ r, e = .returned r ∧ IsCh B (pre22 id q n) w'' r ∧ Own w' w'' []) := fun B w' h => along_ch B w' id h16 q n hq hn h
  have hR : sha (pre22 id q n ++ 255 :: seed) = secretOf id seed q n := rfl
  obtain ⟨R, hR1⟩ : ∃ R, R = secretOf id seed q n := ⟨_, rfl⟩
  have hRl : Hid (R.length = 32) := by show _ = _; rw [hR1]; rfl
  rw [← hR1] at hR ⊢
  obtain ⟨pre, hpre⟩ : ∃ p, p = pre22 id q n := ⟨_, rfl⟩
  rw [← hpre] at hal hR
  have hone : Hid (∀ (B : Nat) (w0 w' : World) (L : List Ent) (v : Value), IsCh B pre w' v → Own w0 w' L → w0.heap.size ≤ B → (∀ k ∈ L.map (·.1), k < B) → Calls Try.prog 93 #[v, .int .i64 255, .agg (u8s seed).toArray] w' fun e w'' => e = .returned (.agg (u8s R).toArray) ∧ ChE B w' w'' ∧ Own w0 w'' L) := fun B w0 w' L v h1 h2 h3 h4 => by
    have h := one_ch h1 h2 h3 h4 255 (by omega) seed h32
    rw [show pre ++ ((255 : Nat) : Int) :: seed = pre ++ 255 :: seed from rfl, hR] at h
    exact h
  have hsz := Lib.hid (size_idL h16)
  have hsz32 := Lib.hid (size_hashL h32)
  have h16' := Lib.hid h16
  clear hR hR1 hpre h16 h32
  go_enter Try.func63, Try.ntmps63
  have tok1 : True := trivial
  go_wp2_with (first
    | (clear tok1; refine st_new rfl (rn_box (cs := u8s (id ++ seed)) H rfl rfl rfl) ?_; clear H; intro b3 w1 hb3 H; have tok2 : True := trivial)
    | (clear tok2; refine st_new rfl (rn_alloc H rfl info_hash) ?_; clear H; intro b6 w2 hb6 H))
  have hBk : Hid (∀ k ∈ ([(b6, u8s (List.replicate 32 0), 28), (b3, u8s (id ++ seed), 30)] : List Ent).map (·.1), k < w2.heap.size) := fun k hk => by
    simp only [List.map_cons, List.map_nil, List.mem_cons, List.not_mem_nil, or_false] at hk
    rcases hk with rfl | rfl
    · exact H.lt (.head _)
    · exact H.lt (.tail _ (.head _))
  have hB0 := Lib.hid H.size
  have H2' := Lib.hid H
  clear H
  refine region_eff 8 (by kernel_rfl) (by kernel_rfl) (by kernel_rfl) [.val (.pointer (some ⟨b3, 0, none⟩)), .val (.agg (u8s id).toArray), .val (.int .i64 q), .val (.int .i64 n), .rel (IsCh w2.heap.size pre), .val (.pointer (some ⟨b3, 16, none⟩)), .val (.agg (u8s seed).toArray), .eff (ChE w2.heap.size) (fun _ v => v = .agg (u8s R).toArray)] rfl ?_ (by kernel_rfl) (fun _ w' => Own w w' [(b6, u8s (List.replicate 32 0), 28), (b3, u8s (id ++ seed), 30)] ∧ w2.heap.size ≤ w'.heap.size) ⟨H2'.out, Nat.le_refl _⟩ (fun _ _ _ h1 h2 => ⟨h1.1.call0 h2, Nat.le_trans h1.2 h2.size⟩) ?_
  · simp only [eAll, eRow, Se.pres, or_true, true_and, and_true]
    exact ⟨Or.inr (Or.inr IsCh.presE), Or.inl trivial⟩
  have tok3 : True := trivial
  try go_frame
  repeat (first
    | (clear tok3; refine se_run (v := .agg (u8s id).toArray) rfl (fun w' hw' _ => rn_cells rfl rfl rfl rfl hsz.out (fun j v hj => by obtain ⟨_, h, _⟩ := hw'; exact h.rowL (.tail _ (.head _)) j v hj)) ?_; go_frame; have tok4 : True := trivial)
    | (clear tok4; refine se_callR (args := #[.agg (u8s id).toArray, .int .i64 q, .int .i64 n]) IsCh.mono rfl rfl (by simp [Act.eval]) Try.func86 (by kernel_rfl) (by kernel_rfl) (fun w' hw' _ => hal.out _ w' (by obtain ⟨_, _, h⟩ := hw'; exact h)) ?_; intro v11; go_frame; have tok5 : True := trivial)
    | (clear tok5; refine se_run (v := .agg (u8s seed).toArray) rfl (fun w' hw' _ => rn_cells rfl rfl rfl rfl hsz32.out (fun j v hj => by obtain ⟨_, h, _⟩ := hw'; exact h.rowR (.tail _ (.head _)) h16'.out.symm j v hj)) ?_; go_frame; have tok6 : True := trivial)
    | (clear tok6; refine se_callE (args := #[v11, .int .i64 255, .agg (u8s seed).toArray]) (fun _ _ _ _ h => h) rfl rfl rfl (by simp [Act.eval]) Try.func93 (by kernel_rfl) (by kernel_rfl) (fun w' hS hF => (hone.out _ _ _ _ _ (hF.2 _ rfl (List.mem_of_elem_eq_true (by kernel_rfl))) hS.1 hB0.out hBk.out).mono fun e w'' ⟨h1, h2, h3⟩ => ⟨_, h1, rfl, h2, h3, by obtain ⟨c, p, y1, y2, _, _, _, _, _, h⟩ := h2; exact Nat.le_trans hS.2 h.size⟩) ?_; intro v14; go_frame)
    | (refine se_val (fun w' hw' hF => ?_) ⟨_, rfl, Nat.le_of_ble_eq_true rfl⟩ ?_
       · go_big_quiet_step (fail)
         exact rfl
       try go_frame))
  refine se_nil ?_
  intro w5 hS hF
  have H := hS.1
  have e14 := hF.2 _ rfl trivial
  subst e14
  clear hS hF H2' hal hone hBk hB0
  simp only [List.drop_succ_cons, List.drop_zero]
  go_wp2_with (refine st_skip rfl (rn_storeAll (vs := u8s R) H rfl rfl rfl (size_hashL hRl.out) .head (by rw [length_ints, length_ints, hRl.out]; rfl) (oneCell_ints _ _)) ?_; clear H; intro w8 H)
  refine fin_cell rfl H rfl (.head _) rfl rfl (size_hashL hRl.out) rfl ⟨rfl, ?_⟩
  exact H.end0 (by simp; omega)

end Go.Proofs.Ytfihlmnbonnekaa
