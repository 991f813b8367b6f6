/- ots: Derive. And what stands on it. No condition. -/
import Derived.Test.YtfihlmnbonnekaaGreatRefB
import Derived.Test.YtfihlmnbonnekaaGreatMb
namespace Go.Proofs.YtfihlmnbonnekaaGreat
open Go.RowKit
set_option maxHeartbeats 32000000
theorem Own.young {w0 w w' : World} {L : List Ent} {c : Nat} {cs : List Value} {T : TypeId} (H : Own w0 w L) (hu : Own w w' [(c, cs, T)]) (hc : w0.heap.size ≤ c) (hn : c ∉ L.map (·.1)) : Own w0 w' L := by
 refine ⟨hu.os.trans H.os, hu.tape.trans H.tape, hu.output.trans H.output, Nat.le_trans H.size hu.size, fun k hk hkn => ?_, H.nodup, fun b cs1 T1 hm => ?_⟩
 · rw [hu.keep k (Nat.lt_of_lt_of_le hk H.size) (by simp; omega)]
   exact H.keep k hk hkn
 · rw [hu.keep b (H.lt hm) (by simp; rintro rfl; exact hn (List.mem_map.2 ⟨_, hm, rfl⟩))]
   exact H.here b cs1 T1 hm
def IsCh (B : Nat) (pre : List Int) : World → Value → Prop := fun w v => ∃ c ys, v = .pointer (some ⟨c, 0, none⟩) ∧ B ≤ c ∧ pre.length = 22 ∧ ys.length = 33 ∧ w.heap[c]? = some (.cells (u8s (pre ++ ys)).toArray 146 (0, 0))
theorem IsCh.mono {B : Nat} {pre : List Int} : Mono (IsCh B pre) := fun w1 w2 v h ⟨c, ys, h1, h2, h3, h4, h5⟩ => ⟨c, ys, h1, h2, h3, h4, by rw [h.keep c (Array.getElem?_eq_some_iff.1 h5).1 (by simp)]; exact h5⟩
def ChE (B : Nat) : World → World → Prop := fun w1 w2 => ∃ c pre ys ys', B ≤ c ∧ pre.length = 22 ∧ ys.length = 33 ∧ ys'.length = 33 ∧ w1.heap[c]? = some (.cells (u8s (pre ++ ys)).toArray 146 (0, 0)) ∧ Own w1 w2 [(c, u8s (pre ++ ys'), 146)]
theorem IsCh.presE {B : Nat} {pre : List Int} : ∀ w1 w2 v, ChE B w1 w2 → IsCh B pre w1 v → IsCh B pre w2 v := fun w1 w2 v ⟨c, p0, ys, ys', hB, hp, hy, hy', hc, ho⟩ ⟨d, zs, h1, h2, h3, h4, h5⟩ => by
 by_cases e : d = c
 · subst e
   rw [hc] at h5
   have e1 : u8s (p0 ++ ys) = u8s (pre ++ zs) := by
    have := Option.some.inj h5
    simp only [Obj.cells.injEq, and_true] at this
    simpa using congrArg Array.toList this
   have e2 : p0 = pre := by
    have e3 : p0 ++ ys = pre ++ zs := (List.map_inj_right (fun x y h => by cases h; rfl)).1 e1
    have h6 := congrArg (List.take 22) e3
    rwa [List.take_left' hp, List.take_left' h3] at h6
   subst e2
   exact ⟨d, ys', h1, h2, h3, hy', ho.here _ _ _ (.head _)⟩
 · exact ⟨d, zs, h1, h2, h3, h4, by rw [ho.keep d (Array.getElem?_eq_some_iff.1 h5).1 (by simpa using e)]; exact h5⟩
theorem NewC.presE {B : Nat} {cs : List Value} {T : TypeId} (hT : T ≠ 146) : ∀ w1 w2 v, ChE B w1 w2 → NewC B cs T w1 v → NewC B cs T w2 v := fun w1 w2 v ⟨c, p0, ys, ys', hB, hp, hy, hy', hc, ho⟩ ⟨d, h1, h2, h5⟩ => by
 have e : d ≠ c := by
  rintro rfl
  rw [hc] at h5
  have := Option.some.inj h5
  simp only [Obj.cells.injEq, and_true] at this
  exact hT this.2.symm
 exact ⟨d, h1, h2, by rw [ho.keep d (Array.getElem?_eq_some_iff.1 h5).1 (by simpa using e)]; exact h5⟩
theorem one_ch {B : Nat} {pre : List Int} {w0 w : World} {L : List Ent} {v : Value} (hv : IsCh B pre w v) (H : Own w0 w L) (hB : w0.heap.size ≤ B) (hL : ∀ k ∈ L.map (·.1), k < B) (n : Nat) (hn : n < 256) (x : List Int) (hx : x.length = 32) :
 Calls Tryz.prog 92 #[v, .int .i64 n, .agg (u8s x).toArray] w fun e w' => e = .returned (.agg (u8s (sha (pre ++ (n : Int) :: x))).toArray) ∧ ChE B w w' ∧ Own w0 w' L := by
 obtain ⟨c, ys, rfl, h2, h3, h4, h5⟩ := hv
 refine (one_any w c n pre ys x hn h3 h4 hx (Own.one h5)).mono ?_
 rintro e w' ⟨rfl, ho⟩
 exact ⟨rfl, ⟨c, pre, ys, _, h2, h3, h4, length_cons33 hx, h5, ho⟩, H.young ho (by omega) (fun hm => by have := hL _ hm; omega)⟩
theorem walk_ch {B : Nat} {pre : List Int} {w0 w : World} {L : List Ent} {v : Value} (hv : IsCh B pre w v) (H : Own w0 w L) (hB : w0.heap.size ≤ B) (hL : ∀ k ∈ L.map (·.1), k < B) (f t : Nat) (hft : f ≤ t) (ht : t ≤ 256) (x : List Int) (hx : x.length = 32) :
 Calls Tryz.prog 76 #[v, .agg (u8s x).toArray, .int .i64 f, .int .i64 t] w fun e w' => e = .returned (.agg (u8s (stepsC pre f x (t - f))).toArray) ∧ ChE B w w' ∧ Own w0 w' L := by
 obtain ⟨c, ys, rfl, h2, h3, h4, h5⟩ := hv
 refine (walk_any w c f t pre ys x hft ht h3 h4 hx (Own.one h5)).mono ?_
 rintro e w' ⟨rfl, ys', hy', ho⟩
 exact ⟨rfl, ⟨c, pre, ys, ys', h2, h3, h4, hy', h5, ho⟩, H.young ho (by omega) (fun hm => by have := hL _ hm; omega)⟩
theorem along_ch (B : Nat) (w : World) (id : List Int) (h16 : id.length = 16) (q i : Nat) (hq : q < 32) (hi : i < 65536) (hB : B ≤ w.heap.size) :
 Calls Tryz.prog 75 #[.agg (u8s id).toArray, .int .i64 q, .int .i64 i] w fun e w' => ∃ r, e = .returned r ∧ IsCh B (pre22 id q i) w' r ∧ Own w w' [] :=
 (along_any w id h16 q i hq hi).mono fun e w' ⟨c, h1, h2, h3⟩ => ⟨_, h1, ⟨c, _, rfl, Nat.le_trans hB h2, length_pre22 h16 q i, by simp, h3.here _ _ _ (.head _)⟩, h3.end0 (by simpa using h2)⟩
set_option maxRecDepth 100000 in
theorem derive_any (w : World) (id seed : List Int) (h16 : id.length = 16) (h32 : seed.length = 32) (q n : Nat) (hq : q < 32) (hn : n < 65536) :
 Calls Tryz.prog 72 #[.agg (u8s (id ++ seed)).toArray, .int .i64 q, .int .i64 n] w fun e w' => e = .returned (.agg (u8s (secretOf id seed q n)).toArray) ∧ Own w w' [] := by
 have H := Own.refl w
 have hal : Hid (∀ B w', B ≤ w'.heap.size → Calls Tryz.prog 75 #[.agg (u8s id).toArray, .int .i64 q, .int .i64 n] w' fun e w'' => ∃ r, e = .returned r ∧ IsCh B (pre22 id q n) w'' r ∧ Own w' w'' []) := fun B w' h => along_ch B w' id h16 q n hq hn h
 have hR : sha (pre22 id q n ++ 255 :: seed) = secretOf id seed q n := rfl
 obtain ⟨R, hR1⟩ : ∃ R, R = secretOf id seed q n := ⟨_, rfl⟩
 have hRl : Hid (R.length = 32) := by show _ = _; rw [hR1]; rfl
 rw [← hR1] at hR ⊢
 obtain ⟨pre, hpre⟩ : ∃ p, p = pre22 id q n := ⟨_, rfl⟩
 rw [← hpre] at hal hR
 have hone : Hid (∀ (B : Nat) (w0 w' : World) (L : List Ent) (v : Value), IsCh B pre w' v → Own w0 w' L → w0.heap.size ≤ B → (∀ k ∈ L.map (·.1), k < B) → Calls Tryz.prog 92 #[v, .int .i64 255, .agg (u8s seed).toArray] w' fun e w'' => e = .returned (.agg (u8s R).toArray) ∧ ChE B w' w'' ∧ Own w0 w'' L) := fun B w0 w' L v h1 h2 h3 h4 => by
  have h := one_ch h1 h2 h3 h4 255 (by omega) seed h32
  rw [show pre ++ ((255 : Nat) : Int) :: seed = pre ++ 255 :: seed from rfl, hR] at h
  exact h
 have hsz := Hh (size_idL h16)
 have hsz32 := Hh (size_hashL h32)
 have h16' := Hh h16
 clear hR hR1 hpre h16 h32
 go_enter Tryz.func72, Tryz.ntmps72
 have z1 := tt
 go_wp2_with (first
  | (clear z1; refine st_new rfl (rn_box (cs := u8s (id ++ seed)) H rfl rfl rfl) ?_; clear H; intro b3 w1 hb3 H; have z2 := tt)
  | (clear z2; refine st_new rfl (rn_alloc H rfl info_hash) ?_; clear H; intro b6 w2 hb6 H))
 have hBk : Hid (∀ k ∈ ([(b6, u8s (List.replicate 32 0), 24), (b3, u8s (id ++ seed), 26)] : List Ent).map (·.1), k < w2.heap.size) := fun k hk => by
  simp only [List.map_cons, List.map_nil, List.mem_cons, List.not_mem_nil, or_false] at hk
  rcases hk with rfl | rfl
  · exact H.lt (.head _)
  · exact H.lt (.tail _ (.head _))
 have hB0 := Hh H.size
 have H2' := Hh H
 clear H
 refine region_eff 8 (by kernel_rfl) (by kernel_rfl) (by kernel_rfl) [.val (.pointer (some ⟨b3, 0, none⟩)), .val (.agg (u8s id).toArray), .val (.int .i64 q), .val (.int .i64 n), .rel (IsCh w2.heap.size pre), .val (.pointer (some ⟨b3, 16, none⟩)), .val (.agg (u8s seed).toArray), .eff (ChE w2.heap.size) (fun _ v => v = .agg (u8s R).toArray)] rfl ?_ (by kernel_rfl) (fun _ w' => Own w w' [(b6, u8s (List.replicate 32 0), 24), (b3, u8s (id ++ seed), 26)] ∧ w2.heap.size ≤ w'.heap.size) ⟨H2'.out, Nat.le_refl _⟩ (fun _ _ _ h1 h2 => ⟨h1.1.call0 h2, Nat.le_trans h1.2 h2.size⟩) ?_
 · simp only [eAll, eRow, Se.pres, or_true, true_and, and_true]
   exact ⟨Or.inr (Or.inr IsCh.presE), Or.inl trivial⟩
 have z3 := tt
 try go_frame
 repeat (first
  | (clear z3; refine se_run (v := .agg (u8s id).toArray) rfl (fun w' hw' _ => rn_cells rfl rfl rfl rfl hsz.out (fun j v hj => by obtain ⟨_, h, _⟩ := hw'; exact h.rowL (.tail _ (.head _)) j v hj)) ?_; go_frame; have z4 := tt)
  | (clear z4; refine se_callR (args := #[.agg (u8s id).toArray, .int .i64 q, .int .i64 n]) IsCh.mono rfl rfl (by simp [Act.eval]) Tryz.func75 (by kernel_rfl) (by kernel_rfl) (fun w' hw' _ => hal.out _ w' (by obtain ⟨_, _, h⟩ := hw'; exact h)) ?_; intro v11; go_frame; have z5 := tt)
  | (clear z5; refine se_run (v := .agg (u8s seed).toArray) rfl (fun w' hw' _ => rn_cells rfl rfl rfl rfl hsz32.out (fun j v hj => by obtain ⟨_, h, _⟩ := hw'; exact h.rowR (.tail _ (.head _)) h16'.out.symm j v hj)) ?_; go_frame; have z6 := tt)
  | (clear z6; refine se_callE (args := #[v11, .int .i64 255, .agg (u8s seed).toArray]) (fun _ _ _ _ h => h) rfl rfl rfl (by simp [Act.eval]) Tryz.func92 (by kernel_rfl) (by kernel_rfl) (fun w' hS hF => (hone.out _ _ _ _ _ (hF.2 _ rfl (mE (by kernel_rfl))) hS.1 hB0.out hBk.out).mono fun e w'' ⟨h1, h2, h3⟩ => ⟨_, h1, rfl, h2, h3, by obtain ⟨c, p, y1, y2, _, _, _, _, _, h⟩ := h2; exact Nat.le_trans hS.2 h.size⟩) ?_; intro v14; go_frame)
  | (refine se_val (fun w' hw' hF => ?_) ⟨_, rfl, nB rfl⟩ ?_
     · go_big_quiet_step (fail)
       exact rfl
     try go_frame))
 refine se_nil ?_
 intro w5 hS hF
 have H := hS.1
 have e14 := hF.2 _ rfl trivial
 subst e14
 clear hS hF H2' hal hone hBk hB0
 simp only [List.drop_succ_cons, List.drop_zero]
 go_wp2_with (refine st_skip rfl (rn_storeAll (vs := u8s R) H rfl rfl rfl (size_hashL hRl.out) .head (by rw [length_ints, length_ints, hRl.out]; rfl) (oneCell_ints _ _)) ?_; clear H; intro w8 H)
 refine fin_cell rfl H rfl (.head _) rfl rfl (size_hashL hRl.out) rfl ⟨rfl, ?_⟩
 exact H.end0 (by simp; omega)
end Go.Proofs.YtfihlmnbonnekaaGreat
namespace Go.Proofs.YtfihlmnbonnekaaGreat
open Go.RowKit
theorem info_writer : ((Tryz.prog.info? 79).bind (·.zero)).map (fun z => z.cells.toList) = some [.slice none 0 0] := by kernel_rfl
def hashIn (id : List Int) (q n : Nat) (ls : List (List Int)) : List Int := frontq id q ++ numB n 2 ++ ls.flatten
set_option maxRecDepth 100000 in
theorem hash_any (w : World) (id : List Int) (h16 : id.length = 16) (q n : Nat) (hq : q < 32) (hn : n < 65536) (v : Value) (ls : List (List Int)) (hv : LitL ls w v) (hl : ls.flatten.length ≤ 200000) (hl9 : ls.length ≤ 1000) :
 Calls Tryz.prog 74 #[.agg (u8s id).toArray, .int .i64 q, .int .i64 n, v] w fun e w' => e = .returned (.agg (u8s (sha (hashIn id q n ls))).toArray) ∧ Own w w' [] := by
 have H := Own.refl w
 obtain ⟨l, hO, hls⟩ := hv
 have hlen : l.length = ls.length := by rw [← hls, List.length_map]
 obtain ⟨pv, cv, rfl⟩ := hO.addr'
 have O := Hh hO
 obtain ⟨m, hm⟩ : ∃ m, m = l.length := ⟨_, rfl⟩
 rw [← hm] at O hlen ⊢
 have hm' := Hh hm
 have h16' := Hh h16
 have hm9 : m ≤ 1000 := by omega
 obtain ⟨A, hA⟩ : ∃ A, A = frontq id q ++ numB n 2 := ⟨_, rfl⟩
 have hAl : Hid (A.length = 22) := by show _ = _; rw [hA, List.length_append, length_frontq h16, length_numB]
 have hA1 : Hid ([] ++ id ++ numB q 4 ++ numB n 2 = A) := by show _ = _; rw [hA]; rfl
 have hfin : Hid (A ++ flatL l m = hashIn id q n ls) := by show _ = _; rw [hm, LitL.flat hls, hA]; rfl
 have hfl : Hid (∀ i, (flatL l i).length ≤ 200000) := fun i => Nat.le_trans (flatL_le l i) (by rw [LitL.flat hls]; exact hl)
 have hfs : Hid (∀ i x, l[i]? = some x → flatL l (i + 1) = flatL l i ++ x.2) := fun i x h => flatL_succ h
 have hf0 : Hid (flatL l 0 = []) := rfl
 obtain ⟨Z, hZ⟩ : ∃ Z, Z = hashIn id q n ls := ⟨_, rfl⟩
 rw [← hZ] at hfin ⊢
 obtain ⟨F, hF⟩ : ∃ F, F = flatL l := ⟨_, rfl⟩
 rw [← hF] at hfin hfl hfs hf0
 have hZl : Hid (Z.length ≤ 200022) := by show _ ≤ _; rw [← hfin.out, List.length_append, hAl.out]; have := hfl.out m; omega
 clear hO hls hlen hl hl9 hm h16 hA hZ hF
 go_enter Tryz.func74, Tryz.ntmps74
 have z1 := tt
 go_wp2_with (first
  | (clear z1; refine st_new rfl (rn_box (cs := u8s id) H rfl rfl rfl) ?_; clear H; intro b4 w1 hb4 H; have z2 := tt)
  | (clear z2; refine st_new rfl (rn_alloc H rfl info_hash) ?_; clear H; intro b8 w2 hb8 H; have z3 := tt)
  | (clear z3; refine st_new rfl (rn_alloc H rfl info_writer) ?_; clear H; intro b9 w3 hb9 H; have B : Buf 5 .u8 w w3 ((b9, [.slice none 0 0], 79) :: [(b8, u8s (List.replicate 32 0), 24), (b4, u8s id, 22)]) (.slice none 0 0) [] := Buf.nil H; clear H; have z4 := tt)
  | (refine st_val rfl (rn_sliceAll rfl rfl size_u8 rfl (by omega)) ?_)
  | (clear z4; go_at_call 39; refine (raw_any _ _ _ _ _ _ B _ id (Own.litM B.own0 (.tail _ (.tail _ (.head _))) h16'.out.symm) (by rw [h16'.out]; decide)).mono ?_; rintro e w4 ⟨rfl, v4, B2⟩; clear B; have B := B2; clear B2; have z5 := tt)
  | (clear z5; go_at_call 37; refine (num_any _ _ _ _ _ _ B q 4 (by omega) (by omega) (by rw [List.nil_append, h16'.out]; omega)).mono ?_; rintro e w5 ⟨rfl, v5, B2⟩; clear B; have B := B2; clear B2; have z6 := tt)
  | (clear z6; go_at_call 37; refine (num_any _ _ _ _ _ _ B n 2 (by omega) (by omega) (by rw [List.nil_append, List.length_append, h16'.out, length_numB]; omega)).mono ?_; rintro e w6 ⟨rfl, v6, B2⟩; rw [hA1.out] at B2; clear B; have B := B2; clear B2))
 go_loopw [22] (fun v22 wr => ∃ (i : Nat) (u : Value), i ≤ m ∧ v22 = .int .i64 ((i : Nat) : Int) ∧ Buf 5 .u8 w wr ((b9, [u], 79) :: [(b8, u8s (List.replicate 32 0), 24), (b4, u8s id, 22)]) u (A ++ F i)) (fun v22 _ => ((m : Nat) - intOf v22).toNat)
 case atStart => exact ⟨0, v6, by omega, rfl, by rw [hf0.out, List.append_nil]; exact B⟩
 case round =>
  clear B
  obtain ⟨i, u, hi, rfl, B⟩ := hrel
  by_cases hin : i < m
  · obtain ⟨x, hx⟩ : ∃ x, l[i]? = some x := ⟨_, List.getElem?_eq_getElem (by have := hm'.out; omega)⟩
    obtain ⟨hxo, ⟨px, cx, hxs⟩, _⟩ := O.out.el i x hx
    have hFx := Hh (hfs.out i x hx)
    obtain ⟨og, oo, hp0⟩ := O.out.addr (by have := hm'.out; omega)
    subst hp0
    have hcell : Hid (∀ w1 L1, Own w w1 L1 → (∀ b ∈ L1.map (·.1), w.heap.size ≤ b) → w1.cell? ⟨og, oo + (i : Int).toNat * 1, none⟩ = some (.slice px x.2.length cx)) := fun w1 L1 h1 h2 => by rw [← hxs]; exact O.out.cellAt h1 h2 (by simpa using hx)
    have hxo' : Hid (∀ w1 L1, Own w w1 L1 → (∀ b ∈ L1.map (·.1), w.heap.size ≤ b) → BytesAt w1 (.slice px x.2.length cx) x.2) := fun w1 L1 h1 h2 => by rw [← hxs]; exact hxo.at h1 h2
    have hl3 := Hh (hfl.out (i + 1))
    have hl4 : Hid ((F (i + 1)).length = (F i).length + x.2.length) := by show _ = _; rw [hFx.out, List.length_append]
    have hst : Hid (A ++ F i ++ x.2 = A ++ F (i + 1)) := by show _ = _; rw [hFx.out, List.append_assoc]
    obtain ⟨ys, hys⟩ : ∃ ys, x.2 = ys := ⟨_, rfl⟩
    rw [hys] at hcell hxo' hFx hl4 hst
    clear hxo hxs hx hys
    go_wp2_with (first
     | (refine st_val rfl (rn_idxSl (j := (i : Int)) rfl rfl size_sl rfl rfl (by omega) (by omega)) ?_)
     | (refine st_val rfl (rn_cell (i := oo + (i : Int).toNat * 1) rfl rfl rfl rfl (hcell.out _ _ B.own0 (by simp; omega))) ?_)
     | (go_at_call 39; refine (raw_any _ _ _ _ _ _ B _ ys (hxo'.out _ _ B.own0 (by simp; omega)) (by rw [List.length_append, hAl.out]; have := hl3.out; have := hl4.out; omega)).mono ?_; rintro e w7 ⟨rfl, v7, B2⟩; rw [hst.out] at B2; clear B; have B := B2; clear B2))
    exact ⟨⟨i + 1, _, by omega, by go_num, B⟩, by simp [intOf]; omega⟩
  · obtain rfl : i = m := by omega
    rw [hfin.out] at B
    have z7 := tt
    go_wp2_with (first
     | (clear z7; go_at_call 40; refine (bytes_any _ b9 u Z (B.own0.sub1 (.head _)) B.bytesAt B.lt (by have := hZl.out; omega)).mono ?_; rintro e w7 ⟨r, rfl, hr, h3⟩; have H := B.own0.call0 h3; clear B h3; have R7 := Hh hr; clear hr; have z8 := tt)
     | (clear z8; go_at_call 83; refine (shaSum_any _ _ Z R7.out.2.1 R7.out.2.2 (by have := hZl.out; omega)).mono ?_; rintro e w8 ⟨rfl, h3⟩; have H2 := H.call0 h3; clear H h3 R7; have H := H2; clear H2; have z9 := tt)
     | (clear z9; refine st_skip rfl (rn_storeAll (vs := u8s (sha Z)) H rfl rfl rfl (by kernel_rfl) (.tail .head) (by kernel_rfl) (oneCell_ints _ _)) ?_; clear H; intro w9 H))
    refine fin_cell rfl H rfl (.tail _ (.head _)) rfl rfl (by kernel_rfl) rfl ⟨rfl, ?_⟩
    exact H.end0 (by simp; omega)
end Go.Proofs.YtfihlmnbonnekaaGreat
namespace Go.Proofs.YtfihlmnbonnekaaGreat
open Go.RowKit
section
variable {P : Program} {ops : Array Oper} {rest : List Oper} {o : Oper} {a : Act} {w : World} {Q : Exit → Act → World → Prop}
theorem st_callC (hg : o.guard = none) {x : Operand} {f : Nat} {fn : Func} {cap : Array Value} {xs : Array Operand} {ats : Array TypeId} {args : Array Value} (hop : o.op = .call { callee := .value x, args := xs, argTypes := ats }) (hx : a.eval x = .func (.func f) #[] cap) (hargs : xs.map a.eval ++ cap = args)
 (hf : P.funcs[f]? = some fn) (hname : (fn.name == "runtime.NumGoroutine") = false) (hb : fn.body.isNone = false) {R : Value → World → Prop} (hc : Calls P f args w fun e w' => ∃ v, e = .returned v ∧ R v w')
 (h : ∀ v w', R v w' → wpList P ops Q rest (a.put o.dst v) w') : wpList P ops Q (o :: rest) a w := by
 have hy : YieldsTo P o a w R := by
  unfold YieldsTo
  rw [run_call_clo hop hx hargs hf hname hb]
  exact hc
 exact wpList_plain hg fun K hK => YieldsTo.wp hy fun v w' hr => hK _ _ (h v w' hr)
end
theorem Buf.callL {e : TypeId} {k : IntKind} {w0 w w' : World} {L Lr Lr' : List Ent} {v : Value} {xs : List Int} (E : Buf e k w0 w (L ++ Lr) v xs) (hu : Own w w' Lr') (hk : Lr'.map (·.1) = Lr.map (·.1)) : Buf e k w0 w' (L ++ Lr') v xs := by
 obtain ⟨Lv, h1, h2, h3⟩ := E
 refine ⟨Lv, h1, ?_, h3⟩
 have p1 : (Lv ++ (L ++ Lr)).Perm (Lr ++ (Lv ++ L)) := by rw [← List.append_assoc]; exact List.perm_append_comm
 have p2 : (Lr' ++ (Lv ++ L)).Perm (Lv ++ (L ++ Lr')) := by rw [← List.append_assoc Lv]; exact List.perm_append_comm
 exact (Own.call (h2.perm p1) ⟨hu, fun j hj => Or.inl (by rw [← hk]; exact hj)⟩ (fun j hj => Or.inl (by rw [hk]; exact hj))).perm p2
theorem chains_k (w : World) (k : Nat) (hk : k = 1 ∨ k = 2 ∨ k = 4 ∨ k = 8) : Calls Tryz.prog 32 #[.int .i64 k] w fun e w' => e = .returned (.int .i64 (chN k)) ∧ Own w w' [] := by
 rcases hk with rfl | rfl | rfl | rfl <;> exact chains_any w _
set_option maxRecDepth 100000 in
theorem key_any (w : World) (id : List Int) (h16 : id.length = 16) (q k : Nat) (hq : q < 32) (hk : k = 1 ∨ k = 2 ∨ k = 4 ∨ k = 8) (f : Nat) (fn : Func) (cap : Array Value) (hf : Tryz.prog.funcs[f]? = some fn) (hname : (fn.name == "runtime.NumGoroutine") = false) (hbd : fn.body.isNone = false)
 (RP : Nat → List Ent → Prop) (K : List Nat) (hkey : ∀ i Lr, RP i Lr → Lr.map (·.1) = K) (X : Nat → List Int) (hXl : ∀ i, (X i).length = 32) (hXb : ∀ i, IsBytes (X i)) (H0 : ∃ Lr, RP 0 Lr ∧ Own w w Lr)
 (hcl : ∀ i, i < chN k → ∀ w' L Lr, RP i Lr → Own w w' (L ++ Lr) → (∀ j ∈ L.map (·.1), w.heap.size ≤ j) → Calls Tryz.prog f (#[.int .i64 i] ++ cap) w' fun e w'' => e = .returned (.agg (u8s (X i)).toArray) ∧ ∃ Lr', RP (i + 1) Lr' ∧ Own w' w'' Lr') :
 Calls Tryz.prog 81 #[.agg (u8s id).toArray, .int .i64 q, .int .i64 k, .func (.func f) #[] cap] w fun e w' => e = .returned (.agg (u8s (endsOf id q (flatX X (chN k)))).toArray) ∧ ∃ Lr, RP (chN k) Lr ∧ Own w w' Lr := by
 obtain ⟨L0, hL0, H0⟩ := H0
 have H : Own w w ([] ++ L0) := H0
 obtain ⟨hC0, hC1⟩ := chN_le k
 have hch := Hh (fun w' => chains_k w' k hk)
 obtain ⟨C, hC⟩ : ∃ C, C = chN k := ⟨_, rfl⟩
 rw [← hC] at hch hC0 hC1 hcl ⊢
 have hXl' := Hh hXl
 have hXb' := Hh hXb
 have hkey' := Hh hkey
 have hcl' := Hh hcl
 have hf' := Hh hf
 have hname' := Hh hname
 have hbd' := Hh hbd
 have hsz := Hh (size_idL h16)
 have hhash : Hid (∀ w' v ls, LitL [ls] w' v → ls.length ≤ 100000 → Calls Tryz.prog 74 #[.agg (u8s id).toArray, .int .i64 q, .int .i64 32896, v] w' fun e w'' => e = .returned (.agg (u8s (endsOf id q ls)).toArray) ∧ Own w' w'' []) := fun w' v ls h hl => by
  have h2 := hash_any w' id h16 q 32896 hq (by omega) v [ls] h (by simp; omega) (by simp)
  rw [show sha (hashIn id q 32896 [ls]) = endsOf id q ls by unfold hashIn endsOf; rw [show numB ((32896 : Nat) : Int) 2 = [128, 128] by kernel_rfl, List.append_assoc]; simp] at h2
  exact h2
 have hL0' := Hh hL0
 clear H0 hL0 hXl hXb hkey hcl hf hname hbd hC h16 hk
 go_enter Tryz.func81, Tryz.ntmps81
 have z1 := tt
 go_wp2_with (first
  | (clear z1; refine st_new (g := fun n => [(n, u8s id, 22)] ++ L0) rfl (rn_box (cs := u8s id) H rfl rfl rfl) ?_; clear H; intro b4 w1 hb4 H; have z2 := tt)
  | (clear z2; refine st_new (g := fun n => [(n, u8s (List.replicate 32 0), 24), (b4, u8s id, 22)] ++ L0) rfl (rn_alloc H rfl info_hash) ?_; clear H; intro b8 w2 hb8 H; have z3 := tt)
  | (clear z3; go_at_call 32; refine (hch.out _).mono ?_; rintro e w3 ⟨rfl, h3⟩; replace H := H.call0 h3; clear h3))
 have B : Buf 5 .u8 w w3 ([(b8, u8s (List.replicate 32 0), 24), (b4, u8s id, 22)] ++ L0) (.slice none 0 0) [] := Buf.nil H
 clear H
 go_loopw [9, 10, 14] (fun v9 _ v14 wr => ∃ (i : Nat) (p : Option Addr) (c : Nat) (Lr : List Ent), i ≤ C ∧ v14 = .int .i64 ((i : Nat) : Int) ∧ v9 = .slice p (32 * i) c ∧ RP i Lr ∧ Buf 5 .u8 w wr ([(b8, u8s (List.replicate 32 0), 24), (b4, u8s id, 22)] ++ Lr) v9 (flatX X i)) (fun _ _ v14 _ => ((C : Nat) - intOf v14).toNat)
 case atStart => exact ⟨0, none, 0, L0, by omega, rfl, rfl, hL0'.out, B⟩
 case round =>
  clear B
  obtain ⟨i, p, c, Lr, hi, rfl, rfl, hRP, B⟩ := hrel
  have hRP' := Hh hRP
  clear hRP
  by_cases hin : i < C
  · obtain ⟨R1, hR1⟩ : ∃ R : Value → World → Prop, R = fun v w'' => v = .agg (u8s (X i)).toArray ∧ ∃ Lr', RP (i + 1) Lr' ∧ Buf 5 .u8 w w'' ([(b8, u8s (List.replicate 32 0), 24), (b4, u8s id, 22)] ++ Lr') (.slice p (32 * i) c) (flatX X i) := ⟨_, rfl⟩
    obtain ⟨ar, har⟩ : ∃ a, a = #[.int .i64 i] ++ cap := ⟨_, rfl⟩
    have hc2 : Hid (Calls Tryz.prog f ar wr fun e w'' => ∃ v, e = .returned v ∧ R1 v w'') := by
     rw [hR1, har]
     obtain ⟨Lv, h1, h2, h3⟩ := B
     refine (hcl'.out i hin wr (Lv ++ [(b8, u8s (List.replicate 32 0), 24), (b4, u8s id, 22)]) Lr hRP'.out (by rw [List.append_assoc]; exact h2) (fun j hj => ?_)).mono ?_
     · rw [List.map_append, List.mem_append] at hj
       rcases hj with hj | hj
       · exact h3 j hj
       · simp only [List.map_cons, List.map_nil, List.mem_cons, List.not_mem_nil, or_false] at hj
         rcases hj with rfl | rfl <;> assumption
     · rintro e w'' ⟨rfl, Lr', h4, h5⟩
       exact ⟨_, rfl, rfl, Lr', h4, Buf.callL ⟨Lv, h1, h2, h3⟩ h5 ((hkey'.out _ _ h4).trans (hkey'.out _ _ hRP'.out).symm)⟩
    have hR1' := Hh hR1
    have har' := Hh har
    clear hR1 har
    have hxl := Hh (hXl'.out i)
    have hst := Hh (flatX_succ X i)
    have hfl := Hh (length_flatX hXl'.out i)
    obtain ⟨Xi, hXi⟩ : ∃ s, s = X i := ⟨_, rfl⟩
    rw [← hXi] at hR1' hxl hst
    clear hXi
    have hsum : Hid ((flatX X i).length + Xi.length = 32 * (i + 1)) := by show _ = _; rw [hfl.out, hxl.out]; omega
    have z4 := tt
    go_wp2_with (first
     | (clear z4; refine st_callC (P := Tryz.prog) (R := R1) (f := f) (cap := cap) (args := ar) (x := .tmp 17) (xs := #[.tmp 18]) (ats := #[3]) rfl rfl rfl (by rw [har'.out]; simp [Act.eval]) hf'.out hname'.out hbd'.out hc2.out ?_; intro v4 w4 hr; rw [hR1'.out] at hr; obtain ⟨e4, Lq, hq4, B2⟩ := hr; subst e4; have hRQ := Hh hq4; clear hq4; clear B; have B := B2; clear B2; have z5 := tt)
     | (clear z5; refine st_newG rfl (rn_alloc (Own.refl w4) rfl info_hash) ?_; intro b11 w5 hb11 M; have g11 := Nat.le_trans B.own0.size hb11; have B2 := B.callNew M hb11; clear B M; have B := B2; clear B2; have z6 := tt)
     | (clear z6; refine st_bufPut (vs := u8s Xi) rfl B rfl rfl rfl (size_hashL hxl.out) (by rw [length_ints, length_ints, hxl.out]; rfl) (oneCell_ints _ _) ?_; clear B; intro w6 B)
     | (refine st_val rfl (rn_sliceAll rfl rfl size_u8 rfl (by omega)) ?_)
     | (refine st_app (ys := Xi) rfl B elem_u8 rfl rfl rfl rfl (Own.litM (T := 24) B.own0 (.head _) hxl.out.symm) (by rw [hsum.out]; omega) (by rw [hsum.out]; omega) ?_; clear B; intro p7 c7 w7 B; rw [← hst.out] at B; rw [hsum.out] at B ⊢; have B2 := B.pop g11; clear B; have B := B2; clear B2))
    exact ⟨⟨i + 1, _, _, _, by omega, by go_num, rfl, hRQ.out, B⟩, by simp [intOf]; omega⟩
  · obtain rfl : i = C := by omega
    have hfl := Hh (length_flatX hXl'.out i)
    have hfb := Hh (isBytes_flatX hXb'.out i)
    obtain ⟨R, hR⟩ : ∃ R, R = endsOf id q (flatX X i) := ⟨_, rfl⟩
    have hR' := Hh hR
    have hRl : Hid (R.length = 32) := by show _ = _; rw [hR]; rfl
    clear hR
    have z4 := tt
    go_wp2_with (first
     | (clear z4; refine st_val rfl (rn_loadAll (cs := u8s id) B.own0 rfl rfl (.tail _ (.head _)) rfl rfl hsz.out) ?_; have z5 := tt)
     | (clear z5; refine st_newG rfl (rn_buildSlice (e := 27) (cs := [.slice p (32 * i) c]) (Own.refl wr) rfl (fun w' => by kernel_rfl)) ?_; intro b27 w5 hb27 M; have g27 := Nat.le_trans B.own0.size hb27; have B2 := B.callNew M hb27; clear B; have B := B2; clear B2;
         have L5 : LitL [flatX X i] w5 (.slice (some ⟨b27, 0, none⟩) 1 1) := ⟨[(.slice p (32 * i) c, flatX X i)], (OldL.ofLit M (.head _) rfl rfl (by
          intro y hy
          simp only [List.mem_cons, List.not_mem_nil, or_false] at hy
          subst hy
          exact ⟨B.bin, hfb.out⟩)), rfl⟩; clear M; have z6 := tt)
     | (clear z6; go_at_call 74; refine (hhash.out _ _ _ L5 (by rw [hfl.out]; omega)).mono ?_; rintro e w6 ⟨rfl, h3⟩; rw [← hR'.out]; have H := B.own0.call0 h3; clear B L5 h3; have z7 := tt)
     | (clear z7; refine st_skip rfl (rn_storeAll (L' := (b27, [.slice p (32 * i) c], 27) :: (b8, u8s R, 24) :: (b4, u8s id, 22) :: Lr) (vs := u8s R) H rfl rfl rfl (size_hashL hRl.out) (.tail .head) (by rw [length_ints, length_ints, hRl.out]; rfl) (oneCell_ints _ _)) ?_; clear H; intro w9 H))
    refine fin_cell (cs := u8s R) rfl H rfl (.tail _ (.head _)) rfl rfl (size_hashL hRl.out) rfl ⟨by rw [hR'.out], Lr, hRP'.out, ?_⟩
    exact Own.drop (L1 := [_, _, _]) H (by simp; omega)
end Go.Proofs.YtfihlmnbonnekaaGreat
namespace Go.Proofs.YtfihlmnbonnekaaGreat
open Go.RowKit
set_option maxRecDepth 100000 in
theorem pubcl_any (w : World) (id seed : List Int) (h16 : id.length = 16) (h32 : seed.length = 32) (q i t : Nat) (hq : q < 32) (hi : i < 300) (ht : t ≤ 255) (p3 p4 p8 : Nat)
 (h48 : ∀ j v, (u8s (id ++ seed))[j]? = some v → w.cell? ⟨p3, 0 + j, none⟩ = some v) (h4 : w.cell? ⟨p4, 0, none⟩ = some (.int .i64 q)) (h8 : w.cell? ⟨p8, 0, none⟩ = some (.int .i64 t)) (hlt : p3 < w.heap.size ∧ p4 < w.heap.size ∧ p8 < w.heap.size) :
 Calls Tryz.prog 90 #[.int .i64 i, .pointer (some ⟨p3, 0, none⟩), .pointer (some ⟨p4, 0, none⟩), .pointer (some ⟨p8, 0, none⟩)] w fun e w' => e = .returned (.agg (u8s (chainOf id seed q (fun _ => t) i)).toArray) ∧ Own w w' [] := by
 have H := Own.refl w
 have hal : Hid (∀ B w', B ≤ w'.heap.size → Calls Tryz.prog 75 #[.agg (u8s id).toArray, .int .i64 q, .int .i64 i] w' fun e w'' => ∃ r, e = .returned r ∧ IsCh B (pre22 id q i) w'' r ∧ Own w' w'' []) := fun B w' h => along_ch B w' id h16 q i hq (by omega) h
 have hde : Hid (∀ w', Calls Tryz.prog 72 #[.agg (u8s (id ++ seed)).toArray, .int .i64 q, .int .i64 i] w' fun e w'' => e = .returned (.agg (u8s (secretOf id seed q i)).toArray) ∧ Own w' w'' []) := fun w' => derive_any w' id seed h16 h32 q i hq (by omega)
 have hR : stepsC (pre22 id q i) 0 (secretOf id seed q i) (t - 0) = chainOf id seed q (fun _ => t) i := rfl
 obtain ⟨R, hR1⟩ : ∃ R, R = chainOf id seed q (fun _ => t) i := ⟨_, rfl⟩
 have hRl : Hid (R.length = 32) := by show _ = _; rw [hR1]; exact length_chainOf ..
 obtain ⟨S, hS⟩ : ∃ S, S = secretOf id seed q i := ⟨_, rfl⟩
 have hSl : S.length = 32 := by rw [hS]; rfl
 rw [← hR1] at hR ⊢
 rw [← hS] at hde hR
 obtain ⟨pre, hpre⟩ : ∃ p, p = pre22 id q i := ⟨_, rfl⟩
 rw [← hpre] at hal hR
 have hwk : Hid (∀ (B : Nat) (w0 w' : World) (L : List Ent) (v : Value), IsCh B pre w' v → Own w0 w' L → w0.heap.size ≤ B → (∀ k ∈ L.map (·.1), k < B) → Calls Tryz.prog 76 #[v, .agg (u8s S).toArray, .int .i64 0, .int .i64 t] w' fun e w'' => e = .returned (.agg (u8s R).toArray) ∧ ChE B w' w'' ∧ Own w0 w'' L) := fun B w0 w' L v h1 h2 h3 h4 => by
  have h := walk_ch h1 h2 h3 h4 0 t (by omega) (by omega) S hSl
  rw [hR] at h
  exact h
 have hsz := Hh (size_idL h16)
 have hsz48 := Hh (size_secretL h16 h32)
 obtain ⟨hl3, hl4, hl8⟩ := hlt
 have c48 : Hid (∀ w' L, Own w w' L → (∀ k ∈ L.map (·.1), w.heap.size ≤ k) → ∀ j v, (u8s (id ++ seed))[j]? = some v → w'.cell? ⟨p3, 0 + j, none⟩ = some v) := fun w' L h hn j v hj => h.old (h48 j v hj) (fun hm => by have := hn _ hm; omega)
 have c16 : Hid (∀ w' L, Own w w' L → (∀ k ∈ L.map (·.1), w.heap.size ≤ k) → ∀ j v, (u8s id)[j]? = some v → w'.cell? ⟨p3, 0 + j, none⟩ = some v) := fun w' L h hn j v hj => c48.out w' L h hn j v (by
  have hjl : j < (u8s id).length := (List.getElem?_eq_some_iff.1 hj).1
  rw [show u8s (id ++ seed) = u8s id ++ u8s seed from ints_append .., List.getElem?_append_left hjl]; exact hj)
 have c4 : Hid (∀ w' L, Own w w' L → (∀ k ∈ L.map (·.1), w.heap.size ≤ k) → w'.cell? ⟨p4, 0, none⟩ = some (.int .i64 q)) := fun w' L h hn => h.old h4 (fun hm => by have := hn _ hm; omega)
 have c8 : Hid (∀ w' L, Own w w' L → (∀ k ∈ L.map (·.1), w.heap.size ≤ k) → w'.cell? ⟨p8, 0, none⟩ = some (.int .i64 t)) := fun w' L h hn => h.old h8 (fun hm => by have := hn _ hm; omega)
 clear hR hR1 hS hSl hpre h48 h4 h8 hl3 hl4 hl8 h16 h32
 go_enter Tryz.func90, Tryz.ntmps90
 go_wp2_with (refine st_new rfl (rn_alloc H rfl info_hash) ?_; clear H; intro b5 w2 hb5 H)
 have hBk : Hid (∀ k ∈ ([(b5, u8s (List.replicate 32 0), 24)] : List Ent).map (·.1), k < w2.heap.size) := fun k hk => by
  simp only [List.map_cons, List.map_nil, List.mem_cons, List.not_mem_nil, or_false] at hk
  subst hk
  exact H.lt (.head _)
 have hBn : Hid (∀ k ∈ ([(b5, u8s (List.replicate 32 0), 24)] : List Ent).map (·.1), w.heap.size ≤ k) := fun k hk => by
  simp only [List.map_cons, List.map_nil, List.mem_cons, List.not_mem_nil, or_false] at hk
  subst hk
  exact hb5
 have hB0 := Hh H.size
 have H2' := Hh H
 clear H
 refine region_eff 11 (by kernel_rfl) (by kernel_rfl) (by kernel_rfl) [.val (.pointer (some ⟨p3, 0, none⟩)), .val (.agg (u8s id).toArray), .val (.int .i64 q), .val (.int .i64 i), .rel (IsCh w2.heap.size pre), .val (.agg (u8s (id ++ seed)).toArray), .val (.int .i64 q), .val (.int .i64 i), .val (.agg (u8s S).toArray), .val (.int .i64 t), .eff (ChE w2.heap.size) (fun _ v => v = .agg (u8s R).toArray)] rfl ?_ (by kernel_rfl) (fun _ w' => Own w w' [(b5, u8s (List.replicate 32 0), 24)] ∧ w2.heap.size ≤ w'.heap.size) ⟨H2'.out, Nat.le_refl _⟩ (fun _ _ _ h1 h2 => ⟨h1.1.call0 h2, Nat.le_trans h1.2 h2.size⟩) ?_
 · simp only [eAll, eRow, Se.pres, or_true, true_and, and_true]
   exact ⟨Or.inr (Or.inr IsCh.presE), Or.inl trivial⟩
 have z3 := tt
 try go_frame
 repeat (first
  | (clear z3; refine se_run (v := .agg (u8s id).toArray) rfl (fun w' hw' _ => rn_cells rfl rfl rfl rfl hsz.out (by obtain ⟨_, h, _⟩ := hw'; exact c16.out _ _ h hBn.out)) ?_; go_frame; have z4 := tt)
  | (clear z4; refine se_run (v := .int .i64 q) rfl (fun w' hw' _ => rn_cell rfl rfl rfl rfl (by obtain ⟨_, h, _⟩ := hw'; exact c4.out _ _ h hBn.out)) ?_; go_frame; have z5 := tt)
  | (clear z5; refine se_callR (args := #[.agg (u8s id).toArray, .int .i64 q, .int .i64 i]) IsCh.mono rfl rfl (by simp [Act.eval]) Tryz.func75 (by kernel_rfl) (by kernel_rfl) (fun w' hw' _ => hal.out _ w' (by obtain ⟨_, _, h⟩ := hw'; exact h)) ?_; intro v10; go_frame; have z6 := tt)
  | (clear z6; refine se_run (v := .agg (u8s (id ++ seed)).toArray) rfl (fun w' hw' _ => rn_cells rfl rfl rfl rfl hsz48.out (by obtain ⟨_, h, _⟩ := hw'; exact c48.out _ _ h hBn.out)) ?_; go_frame; have z7 := tt)
  | (clear z7; refine se_run (v := .int .i64 q) rfl (fun w' hw' _ => rn_cell rfl rfl rfl rfl (by obtain ⟨_, h, _⟩ := hw'; exact c4.out _ _ h hBn.out)) ?_; go_frame; have z8 := tt)
  | (clear z8; refine se_callN (v := .agg (u8s S).toArray) (args := #[.agg (u8s (id ++ seed)).toArray, .int .i64 q, .int .i64 i]) rfl rfl (by simp [Act.eval]) Tryz.func72 (by kernel_rfl) (by kernel_rfl) (fun w' _ _ => hde.out w') ?_; go_frame; have z9 := tt)
  | (clear z9; refine se_run (v := .int .i64 t) rfl (fun w' hw' _ => rn_cell rfl rfl rfl rfl (by obtain ⟨_, h, _⟩ := hw'; exact c8.out _ _ h hBn.out)) ?_; go_frame; have z10 := tt)
  | (clear z10; refine se_callE (args := #[v10, .agg (u8s S).toArray, .int .i64 0, .int .i64 t]) (fun _ _ _ _ h => h) rfl rfl rfl (by simp [Act.eval]) Tryz.func76 (by kernel_rfl) (by kernel_rfl) (fun w' hS hF => (hwk.out _ _ _ _ _ (hF.2 _ rfl (mE (by kernel_rfl))) hS.1 hB0.out hBk.out).mono fun e w'' ⟨h1, h2, h3⟩ => ⟨_, h1, rfl, h2, h3, by obtain ⟨c, p, y1, y2, _, _, _, _, _, h⟩ := h2; exact Nat.le_trans hS.2 h.size⟩) ?_; intro v16; go_frame)
  | (refine se_val (fun w' hw' hF => ?_) ⟨_, rfl, nB rfl⟩ ?_
     · go_big_quiet_step (fail)
       exact rfl
     try go_frame))
 refine se_nil ?_
 intro w5 hS hF
 have H := hS.1
 have e14 := hF.2 _ rfl trivial
 subst e14
 clear hS hF H2' hal hde hwk hBk hB0 hBn
 simp only [List.drop_succ_cons, List.drop_zero]
 go_wp2_with (refine st_skip rfl (rn_storeAll (vs := u8s R) H rfl rfl rfl (size_hashL hRl.out) .head (by rw [length_ints, length_ints, hRl.out]; rfl) (oneCell_ints _ _)) ?_; clear H; intro w8 H)
 refine fin_cell rfl H rfl (.head _) rfl rfl (size_hashL hRl.out) rfl ⟨rfl, ?_⟩
 exact H.end0 (by simpa using hb5)
theorem may_k {q k : Nat} (hq : q < 32) (hk : k = 1 ∨ k = 2 ∨ k = 4 ∨ k = 8) : mayB q k = true := by
 have h1 : decide ((0 : Int) ≤ q) = true := decide_eq_true (by omega)
 have h2 : decide ((q : Int) < 32) = true := decide_eq_true (by omega)
 unfold mayB
 rw [h1, h2]
 rcases hk with rfl | rfl | rfl | rfl <;> rfl
theorem info_int : ((Tryz.prog.info? 3).bind (·.zero)).map (fun z => z.cells.toList) = some [.int .i64 0] := by kernel_rfl
set_option maxRecDepth 100000 in
theorem public_any (w : World) (id seed : List Int) (h16 : id.length = 16) (h32 : seed.length = 32) (q k : Nat) (hq : q < 32) (hk : k = 1 ∨ k = 2 ∨ k = 4 ∨ k = 8) :
 Calls Tryz.prog 69 #[.agg (u8s (id ++ seed)).toArray, .int .i64 q, .int .i64 k] w fun e w' => e = .returned (.tuple #[.agg (u8s (pubOf id seed q k)).toArray, .int .i64 0]) ∧ Own w w' [] := by
 have H := Own.refl w
 have hmay : Hid (∀ w', Calls Tryz.prog 71 #[.int .i64 q, .int .i64 k] w' fun e w'' => e = .returned (.bool true) ∧ Own w' w'' []) := fun w' => by rw [← may_k hq hk]; exact may_any w' q k
 obtain ⟨t, ht255, _, ht2, hsh⟩ := two_pow hk
 have hk8 : k ≤ 8 := by omega
 have hkey : Hid (∀ w' p3 p4 p8, (∀ j v, (u8s (id ++ seed))[j]? = some v → w'.cell? ⟨p3, 0 + j, none⟩ = some v) → w'.cell? ⟨p4, 0, none⟩ = some (.int .i64 q) → w'.cell? ⟨p8, 0, none⟩ = some (.int .i64 t) → p3 < w'.heap.size ∧ p4 < w'.heap.size ∧ p8 < w'.heap.size →
  Calls Tryz.prog 81 #[.agg (u8s id).toArray, .int .i64 q, .int .i64 k, .func (.func 90) #[] #[.pointer (some ⟨p3, 0, none⟩), .pointer (some ⟨p4, 0, none⟩), .pointer (some ⟨p8, 0, none⟩)]] w' fun e w'' => e = .returned (.agg (u8s (pubOf id seed q k)).toArray) ∧ Own w' w'' []) := fun w' p3 p4 p8 h1 h2 h3 h4 => by
  have h := key_any w' id h16 q k hq hk 90 _ #[.pointer (some ⟨p3, 0, none⟩), .pointer (some ⟨p4, 0, none⟩), .pointer (some ⟨p8, 0, none⟩)] Tryz.func90 (by kernel_rfl) (by kernel_rfl) (fun _ Lr => Lr = []) [] (fun _ Lr h => by rw [h]; rfl) (chainOf id seed q fun _ => t) (fun i => length_chainOf ..) (fun i => isBytes_chainOf _ _ _ _ i) ⟨[], rfl, Own.refl w'⟩ (fun i hi w2 L Lr hL h5 h6 => by
   subst hL
   rw [List.append_nil] at h5
   refine Calls.mono (pubcl_any w2 id seed h16 h32 q i t hq (by have := (chN_le k).2; omega) ht255 p3 p4 p8 (fun j v hj => h5.old (h1 j v hj) (fun hm => by have := h6 _ hm; omega)) (h5.old h2 (fun hm => by have := h6 _ hm; omega)) (h5.old h3 (fun hm => by have := h6 _ hm; omega)) ⟨Nat.lt_of_lt_of_le h4.1 h5.size, Nat.lt_of_lt_of_le h4.2.1 h5.size, Nat.lt_of_lt_of_le h4.2.2 h5.size⟩) ?_
   rintro e w3 ⟨h7, h8⟩
   exact ⟨h7, [], rfl, h8⟩)
  have h := h.mono (fun e w3 ⟨h7, Lr, h8, h9⟩ => show _ ∧ Own w' w3 [] from ⟨h7, by rw [h8] at h9; exact h9⟩)
  rw [show endsOf id q (flatX (chainOf id seed q fun _ => t) (chN k)) = pubOf id seed q k by rw [ht2]; rfl] at h
  exact h
 obtain ⟨R, hR⟩ : ∃ R, R = pubOf id seed q k := ⟨_, rfl⟩
 have hRl : Hid (R.length = 32) := by show _ = _; rw [hR]; rfl
 rw [← hR] at hkey ⊢
 have hsz := Hh (size_idL h16)
 clear hR h16 h32 hk ht2
 go_enter Tryz.func69, Tryz.ntmps69
 have z1 := tt
 go_wp2_with (first
  | (clear z1; refine st_new rfl (rn_box (cs := u8s (id ++ seed)) H rfl rfl rfl) ?_; clear H; intro b3 w1 hb3 H; have z2 := tt)
  | (clear z2; refine st_new rfl (rn_box (cs := i64s [(q : Int)]) H rfl rfl rfl) ?_; clear H; intro b4 w2 hb4 H; have z3 := tt)
  | (clear z3; refine st_new rfl (rn_alloc H rfl info_hash) ?_; clear H; intro b6 w3 hb6 H; have z4 := tt)
  | (refine st_val rfl (rn_load H rfl rfl (.tail _ (.head _)) rfl rfl rfl) ?_)
  | (refine st_val rfl (rn_load H rfl rfl (.tail _ (.tail _ (.head _))) rfl rfl rfl) ?_)
  | (clear z4; go_at_call 71; refine (hmay.out _).mono ?_; rintro e w4 ⟨rfl, h3⟩; replace H := H.call0 h3; clear h3; have z5 := tt)
  | (clear z5; refine st_new rfl (rn_alloc H rfl info_int) ?_; clear H; intro b8 w5 hb8 H; have z6 := tt)
  | (clear z6; refine st_skip rfl (rn_store (v := .int .i64 t) H rfl rfl rfl (by kernel_rfl) .head (by simp) rfl) ?_; clear H; intro w6 H; have z7 := tt)
  | (clear z7; refine st_val rfl (rn_cells rfl rfl rfl rfl hsz.out (fun j v hj => H.rowL (.tail _ (.tail _ (.tail _ (.head _)))) j v hj)) ?_; have z8 := tt)
  | (clear z8; go_at_call 81; refine (hkey.out _ b3 b4 b8 (fun j v hj => by rw [H.cell (.tail _ (.tail _ (.tail _ (.head _)))), Nat.zero_add]; exact hj) (H.cell (.tail _ (.tail _ (.head _))) 0) (H.cell (.head _) 0) ⟨H.lt (.tail _ (.tail _ (.tail _ (.head _)))), H.lt (.tail _ (.tail _ (.head _))), H.lt (.head _)⟩).mono ?_; rintro e w7 ⟨rfl, h3⟩; replace H := H.call0 h3; clear h3; have z9 := tt)
  | (clear z9; refine st_skip rfl (rn_storeAll (vs := u8s R) H rfl rfl rfl (size_hashL hRl.out) (.tail .head) (by rw [length_ints, length_ints, hRl.out]; rfl) (oneCell_ints _ _)) ?_; clear H; intro w9 H))
 refine fin_cell2 (cs := u8s R) rfl H rfl (.tail _ (.head _)) rfl rfl (size_hashL hRl.out) rfl rfl ⟨rfl, ?_⟩
 exact H.end0 (by simp; omega)
end Go.Proofs.YtfihlmnbonnekaaGreat
namespace Go.Proofs.YtfihlmnbonnekaaGreat
open Go.RowKit
theorem Buf.perm {e : TypeId} {k : IntKind} {w0 w : World} {L L' : List Ent} {v : Value} {xs : List Int} (E : Buf e k w0 w L v xs) (p : L.Perm L') : Buf e k w0 w L' v xs := by
 obtain ⟨Lv, h1, h2, h3⟩ := E
 exact ⟨Lv, h1, h2.perm (p.append_left Lv), h3⟩
theorem code_k (w : World) (k : Nat) (hk : k = 1 ∨ k = 2 ∨ k = 4 ∨ k = 8) : Calls Tryz.prog 38 #[.int .i64 k] w fun e w' => e = .returned (.int .i64 (cdN k)) ∧ Own w w' [] := by
 rcases hk with rfl | rfl | rfl | rfl <;> exact code_any w _
theorem cdN_range (k : Nat) : 1 ≤ cdN k ∧ cdN k ≤ 4 := by unfold cdN; repeat (first | omega | split)
set_option maxRecDepth 100000 in
theorem sign_any (w : World) (id seed : List Int) (h16 : id.length = 16) (h32 : seed.length = 32) (q k : Nat) (hq : q < 32) (hk : k = 1 ∨ k = 2 ∨ k = 4 ∨ k = 8) (mv : Value) (msg : List Int) (hm : Old w mv msg) (hmb : IsBytes msg) (hml : msg.length ≤ 90000) :
 Calls Tryz.prog 44 #[.agg (u8s (id ++ seed)).toArray, .int .i64 q, .int .i64 k, mv] w fun e w' => ∃ r, e = .returned (.tuple #[r, .int .i64 0]) ∧ BIn (sigOf id seed q k msg) w' r ∧ Own w w' [] := by
 have H := Own.refl w
 have hmay : Hid (∀ w', Calls Tryz.prog 71 #[.int .i64 q, .int .i64 k] w' fun e w'' => e = .returned (.bool true) ∧ Own w' w'' []) := fun w' => by rw [← may_k hq hk]; exact may_any w' q k
 obtain ⟨hC0, hC1⟩ := chN_le k
 have hk8 : k ≤ 8 := by omega
 have hsig0 : sigOf id seed q k msg = numB (cdN k) 4 ++ randOf id seed q ++ flatX (chainOf id seed q (dgN (msgOf id q (randOf id seed q) msg) k)) (chN k) := rfl
 obtain ⟨Cr, hCr⟩ : ∃ c, c = randOf id seed q := ⟨_, rfl⟩
 have hCrl : Hid (Cr.length = 32) := by show _ = _; rw [hCr]; rfl
 have hCrb : Hid (IsBytes Cr) := by rw [hCr]; exact isBytes_sha _
 have hsr : Hid (∀ w', Calls Tryz.prog 72 #[.agg (u8s (id ++ seed)).toArray, .int .i64 q, .int .i64 65533] w' fun e w'' => e = .returned (.agg (u8s Cr).toArray) ∧ Own w' w'' []) := fun w' => by rw [hCr]; exact derive_any w' id seed h16 h32 q 65533 hq (by omega)
 obtain ⟨M, hM⟩ : ∃ M, M = msgOf id q Cr msg := ⟨_, rfl⟩
 have hMl : Hid (M.length = 32) := by show _ = _; rw [hM]; rfl
 have hMb : Hid (IsBytes M) := by rw [hM]; exact isBytes_sha _
 have hhash : Hid (∀ w' v, LitL [Cr, msg] w' v → Calls Tryz.prog 74 #[.agg (u8s id).toArray, .int .i64 q, .int .i64 33153, v] w' fun e w'' => e = .returned (.agg (u8s M).toArray) ∧ Own w' w'' []) := fun w' v h => by
  have h2 := hash_any w' id h16 q 33153 hq (by omega) v [Cr, msg] h (by have := hCrl.out; simp; omega) (by simp)
  rw [show sha (hashIn id q 33153 [Cr, msg]) = M by rw [hM]; unfold hashIn msgOf; rw [show numB ((33153 : Nat) : Int) 2 = [129, 129] by kernel_rfl, List.append_assoc]; simp] at h2
  exact h2
 have hdig : Hid (∀ w', Calls Tryz.prog 73 #[.int .i64 k, .agg (u8s M).toArray] w' fun e w'' => ∃ r, e = .returned r ∧ TupI (digits M k) w'' r ∧ Own w' w'' []) := fun w' => digitsT_any w' k hk M hMl.out hMb.out
 have hcd := Hh (fun w' => code_k w' k hk)
 obtain ⟨hcd0, hcd9⟩ := cdN_range k
 obtain ⟨cd, hcd1⟩ : ∃ c, c = cdN k := ⟨_, rfl⟩
 have hdl := Hh (length_digits M k)
 have hdn : Hid (∀ n, n < chN k → (ints .i64 (digits M k))[n]? = some (.int .i64 (dgN M k n : Nat)) ∧ dgN M k n < 2 ^ k) := fun n hn => dgN_eq hn
 obtain ⟨ds, hds⟩ : ∃ d, d = digits M k := ⟨_, rfl⟩
 obtain ⟨D, hD⟩ : ∃ d, d = dgN M k := ⟨_, rfl⟩
 have hp256 : (2 : Nat) ^ k ≤ 256 := by have := Nat.pow_le_pow_right (n := 2) (by omega) hk8; omega
 have hD256 : Hid (∀ n, n < chN k → D n ≤ 255) := fun n hn => by have := (hdn.out n hn).2; rw [hD]; omega
 obtain ⟨X, hX⟩ : ∃ X, X = chainOf id seed q D := ⟨_, rfl⟩
 have hXl : Hid (∀ i, (X i).length = 32) := fun i => by rw [hX]; exact length_chainOf ..
 have hal : Hid (∀ i B w', i < 300 → B ≤ w'.heap.size → Calls Tryz.prog 75 #[.agg (u8s id).toArray, .int .i64 q, .int .i64 (i : Nat)] w' fun e w'' => ∃ r, e = .returned r ∧ IsCh B (pre22 id q i) w'' r ∧ Own w' w'' []) := fun i B w' hi h => along_ch B w' id h16 q i hq (by omega) h
 have hde : Hid (∀ i w', i < 300 → Calls Tryz.prog 72 #[.agg (u8s (id ++ seed)).toArray, .int .i64 q, .int .i64 (i : Nat)] w' fun e w'' => e = .returned (.agg (u8s (secretOf id seed q i)).toArray) ∧ Own w' w'' []) := fun i w' hi => derive_any w' id seed h16 h32 q i hq (by omega)
 have hwk : Hid (∀ (i B : Nat) (w0 w' : World) (L : List Ent) (v : Value), i < chN k → IsCh B (pre22 id q i) w' v → Own w0 w' L → w0.heap.size ≤ B → (∀ k ∈ L.map (·.1), k < B) → Calls Tryz.prog 76 #[v, .agg (u8s (secretOf id seed q i)).toArray, .int .i64 0, .int .i64 (D i : Nat)] w' fun e w'' => e = .returned (.agg (u8s (X i)).toArray) ∧ ChE B w' w'' ∧ Own w0 w'' L) := fun i B w0 w' L v hi h1 h2 h3 h4 => by
  have h := walk_ch h1 h2 h3 h4 0 (D i) (by omega) (by have := hD256.out i hi; omega) (secretOf id seed q i) rfl
  rw [show stepsC (pre22 id q i) 0 (secretOf id seed q i) (D i - 0) = X i by rw [hX, Nat.sub_zero]; rfl] at h
  exact h
 rw [← hCr, ← hM, ← hcd1, ← hD, ← hX] at hsig0
 have hsig := Hh hsig0
 obtain ⟨R, hR⟩ : ∃ R, R = sigOf id seed q k msg := ⟨_, rfl⟩
 rw [← hR] at hsig ⊢
 obtain ⟨S, hS⟩ : ∃ S, S = secretOf id seed q := ⟨_, rfl⟩
 obtain ⟨pr, hpr⟩ : ∃ S, S = pre22 id q := ⟨_, rfl⟩
 obtain ⟨C, hC⟩ : ∃ C, C = chN k := ⟨_, rfl⟩
 have hsz := Hh (size_idL h16)
 have hsz48 := Hh (size_secretL h16 h32)
 rw [← hD] at hdn
 rw [← hds] at hdig hdl hdn
 rw [← hC] at hC0 hC1 hdl hdn hD256 hsig hwk
 rw [← hcd1] at hcd hcd0 hcd9
 simp only [← hS] at hde hwk
 simp only [← hpr] at hal hwk
 have hO : Hid (Old w mv msg) := hm
 have hmb' := Hh hmb
 obtain ⟨pm, cm, rfl⟩ := hm.shape
 obtain ⟨ln, hln⟩ : ∃ n, n = msg.length := ⟨_, rfl⟩
 have hln' := Hh hln
 rw [← hln] at hO ⊢
 clear hX hC hR hS hpr h16 h32 hk hCr hM hcd1 hds hD hsig0 hm hmb hml hln hp256
 go_enter Tryz.func44, Tryz.ntmps44
 have z1 := tt
 go_wp2_with (first
  | (clear z1; refine st_new rfl (rn_box (cs := u8s (id ++ seed)) H rfl rfl rfl) ?_; clear H; intro b4 w1 hb4 H; have z2 := tt)
  | (clear z2; go_at_call 71; refine (hmay.out _).mono ?_; rintro e w2 ⟨rfl, h3⟩; replace H := H.call0 h3; clear h3; have z3 := tt)
  | (clear z3; refine st_val rfl (rn_loadAll (cs := u8s (id ++ seed)) H rfl rfl (.head _) rfl rfl hsz48.out) ?_; have z4 := tt)
  | (clear z4; go_at_call 72; refine (hsr.out _).mono ?_; rintro e w3 ⟨rfl, h3⟩; replace H := H.call0 h3; clear h3; have z5 := tt)
  | (clear z5; refine st_new rfl (rn_alloc H rfl info_hash) ?_; clear H; intro b10 w4 hb10 H; have z6 := tt)
  | (clear z6; refine st_skip rfl (rn_storeAll (vs := u8s Cr) H rfl rfl rfl (size_hashL hCrl.out) .head (by rw [length_ints, length_ints, hCrl.out]; rfl) (oneCell_ints _ _)) ?_; clear H; intro w5 H))
 have hc16 : Hid (∀ w', Own w5 w' [] → ∀ j v, (u8s id)[j]? = some v → w'.cell? ⟨b4, 0 + j, none⟩ = some v) := fun w' h j v hj => (H.call0 h).rowL (.tail _ (.head _)) j v hj
 have hcr : Hid (∀ w', Own w5 w' [] → BIn Cr w' (.slice (some ⟨b10, 0, none⟩) 32 32)) := fun w' h => ⟨⟨_, _, by rw [hCrl.out]⟩, Own.litM (H.call0 h) (.head _) hCrl.out.symm, fun k hk => by obtain rfl := (blk_some hk).1; exact (H.call0 h).lt (.head _)⟩
 have hmo : Hid (∀ w', Own w5 w' [] → BIn msg w' (.slice pm ln cm)) := fun w' h => (hO.out.mv (H.call0 h) (by simp; omega)).bin
 have H5 := Hh H
 clear H
 refine region_grow 13 (by kernel_rfl) (by kernel_rfl) (by kernel_rfl) [.val (.int .i64 k), .val (.pointer (some ⟨b4, 0, none⟩)), .val (.agg (u8s id).toArray), .val (.int .i64 q), .val (.slice (some ⟨b10, 0, none⟩) 32 32), .val (.slice pm ln cm), .rel (LitL [Cr, msg]), .val (.agg (u8s M).toArray), .rel (TupI ds), .rel (TupI ds), .rel (IIn .i64 ds), .val (.int .i64 0), .rel (IIn .i64 ds)] rfl ?_
 have z3 := tt
 try go_frame
 repeat (first
  | (clear z3; refine sp_run (v := .agg (u8s id).toArray) rfl (fun w' hw' _ => rn_cells rfl rfl rfl rfl hsz.out (hc16.out w' hw')) ?_; go_frame; have z4 := tt)
  | (clear z4; refine sp_run (v := .slice (some ⟨b10, 0, none⟩) 32 32) rfl (fun w' hw' _ => rn_sliceAll rfl rfl size_u8 rfl (by omega)) ?_; go_frame; have z5 := tt)
  | (clear z5; refine sp_rel (LitL.mono _) rfl (fun w' hw' hF => ?_) ?_
     · refine litL_build (e := 27) (l := [(.slice (some ⟨b10, 0, none⟩) 32 32, Cr), (.slice pm ln cm, msg)]) rfl rfl rfl (fun x hx => ?_) (fun w' => by kernel_rfl)
       simp only [List.mem_cons, List.not_mem_nil, or_false] at hx
       rcases hx with rfl | rfl
       · exact ⟨hcr.out w' hw', hCrb.out⟩
       · exact ⟨hmo.out w' hw', hmb'.out⟩
     intro v31; go_frame; have z6 := tt)
  | (clear z6; refine sp_callN (v := .agg (u8s M).toArray) (args := #[.agg (u8s id).toArray, .int .i64 q, .int .i64 33153, v31]) rfl rfl (by simp [Act.eval]) Tryz.func74 (by kernel_rfl) (by kernel_rfl) (fun w' hw' hF => hhash.out w' v31 (hF.2 _ rfl (mE (by kernel_rfl)))) ?_; go_frame; have z7 := tt)
  | (clear z7; refine sp_callR (args := #[.int .i64 k, .agg (u8s M).toArray]) (TupI.mono _) rfl rfl (by simp [Act.eval]) Tryz.func73 (by kernel_rfl) (by kernel_rfl) (fun w' _ _ => hdig.out w') ?_; intro v33; go_frame; have z8 := tt)
  | (clear z8; refine sp_rel (TupI.mono _) rfl (fun w' hw' hF => yieldsTo_val' (rn_move rfl rfl) ⟨Own.refl _, hF.2 _ rfl (mE (by kernel_rfl))⟩) ?_; intro v24; go_frame; have z9 := tt)
  | (clear z9; refine sp_rel (IIn.mono _ _) rfl (fun w' hw' hF => ?_) ?_
     · obtain ⟨p, c, e34, h34⟩ := hF.2 _ rfl (mE (by kernel_rfl))
       exact yieldsTo_val' (rn_extract rfl e34 rfl) ⟨Own.refl _, h34⟩
     intro v34; go_frame; have z10 := tt)
  | (clear z10; refine sp_run (v := .int .i64 0) rfl (fun w' hw' hF => ?_) ?_
     · obtain ⟨p, c, e34, h34⟩ := hF.1.2 _ rfl (mE (by kernel_rfl))
       exact rn_extract rfl e34 rfl
     go_frame; have z11 := tt)
  | (clear z11; refine sp_rel (IIn.mono _ _) rfl (fun w' hw' hF => yieldsTo_val' (rn_assign rfl rfl) ⟨Own.refl _, hF.2 _ rfl (mE (by kernel_rfl))⟩) ?_; intro v11; go_frame)
  | (refine sp_val (fun w' hw' hF => ?_) ⟨_, rfl, nB rfl⟩ ?_
     · go_big_quiet_step (fail)
       exact rfl
     try go_frame))
 refine sp_nil ?_
 intro w6 hw' hF
 have h11 := hF.2 _ rfl trivial
 have h11b := h11.1
 obtain ⟨p11, c11, e11⟩ := h11b
 subst e11
 obtain ⟨gd, od, e11, _, hdc⟩ := h11.cellAt (by rw [hdl.out]; omega)
 subst e11
 have hdc' : Hid (∀ w' L, Own w6 w' L → (∀ j ∈ L.map (·.1), w6.heap.size ≤ j) → ∀ n, n < C → w'.cell? ⟨gd, od + n, none⟩ = some (.int .i64 (D n : Nat))) := fun w' L h hn n hnC => by
  have h0 := hdc n _ (hdn.out n hnC).1
  have h1 : gd < w6.heap.size := World.block_lt_of_cell? w6 _ h0
  exact h.old h0 (fun hm => by have := hn _ hm; omega)
 have H := H5.out.call0 hw'
 have hl10 : b10 < w6.heap.size := H.lt (.head _)
 have hl4 : b4 < w6.heap.size := H.lt (.tail _ (.head _))
 have c48 : Hid (∀ w' L, Own w6 w' L → (∀ j ∈ L.map (·.1), w6.heap.size ≤ j) → ∀ j v, (u8s (id ++ seed))[j]? = some v → w'.cell? ⟨b4, 0 + j, none⟩ = some v) := fun w' L h hn j v hj => h.old (by rw [H.cell (.tail _ (.head _)), Nat.zero_add]; exact hj) (fun hm => by have := hn _ hm; omega)
 have c16 : Hid (∀ w' L, Own w6 w' L → (∀ j ∈ L.map (·.1), w6.heap.size ≤ j) → ∀ j v, (u8s id)[j]? = some v → w'.cell? ⟨b4, 0 + j, none⟩ = some v) := fun w' L h hn j v hj => h.old (H.rowL (.tail _ (.head _)) j v hj) (fun hm => by have := hn _ hm; omega)
 have ccr : Hid (∀ w' L, Own w6 w' L → (∀ j ∈ L.map (·.1), w6.heap.size ≤ j) → BytesAt w' (.slice (some ⟨b10, 0, none⟩) 32 32) Cr) := fun w' L h hn => SlAt.own (Own.litM H (.head _) hCrl.out.symm) h (fun k hk hm => by have e : b10 = k := (blk_some hk).1; have := hn _ hm; omega)
 have H6 := Hh H
 rw [hdl.out]
 clear hdc h11 hw' hF hhash hdig hsr hmo hcr hc16 H5 H hl10 hl4
 simp only [List.drop_succ_cons, List.drop_zero]
 have H := Own.refl w6
 have hnl := Hh (length_numB cd 4)
 have hA36 : Hid ([] ++ numB cd 4 ++ Cr = numB cd 4 ++ Cr) := by show _ = _; rfl
 have hAl : Hid ((numB cd 4 ++ Cr).length = 36) := by show _ = _; rw [List.length_append, length_numB, hCrl.out]
 obtain ⟨A36, hA⟩ : ∃ a, a = numB cd 4 ++ Cr := ⟨_, rfl⟩
 rw [← hA] at hA36 hAl hsig
 clear hA
 have z3 := tt
 go_wp2_with (first
  | (clear z3; refine st_new rfl (rn_alloc H rfl info_writer) ?_; clear H; intro b13 w7 hb13 H; have B : Buf 5 .u8 w6 w7 ((b13, [.slice none 0 0], 79) :: []) (.slice none 0 0) [] := Buf.nil H; clear H; have z4 := tt)
  | (clear z4; go_at_call 38; refine (hcd.out _).mono ?_; rintro e w8 ⟨rfl, h3⟩; replace B := B.call0 h3; clear h3; have z5 := tt)
  | (clear z5; go_at_call 37; refine (num_any _ _ _ _ _ _ B cd 4 (by omega) (by omega) (by simp)).mono ?_; rintro e w9 ⟨rfl, v9, B2⟩; clear B; have B := B2; clear B2; have z6 := tt)
  | (refine st_val rfl (rn_sliceAll rfl rfl size_u8 rfl (by omega)) ?_)
  | (clear z6; go_at_call 39; refine (raw_any _ _ _ _ _ _ B _ Cr (ccr.out _ _ B.own0 (by simpa using hb13)) (by rw [List.nil_append, hnl.out, hCrl.out]; decide)).mono ?_; rintro e w10 ⟨rfl, v10, B2⟩; rw [hA36.out] at B2; clear B; have B := B2; clear B2))
 go_loopw [14, 15, 44] (fun _ _ v44 wr => ∃ (i : Nat) (u : Value), i ≤ C ∧ v44 = .int .i64 ((i : Nat) : Int) ∧ Buf 5 .u8 w6 wr ((b13, [u], 79) :: []) u (A36 ++ flatX X i)) (fun _ _ v44 _ => ((C : Nat) - intOf v44).toNat)
 case atStart => exact ⟨0, v10, by omega, rfl, by rw [flatX_zero, List.append_nil]; exact B⟩
 case round =>
  clear B
  obtain ⟨i, u, hi, rfl, B⟩ := hrel
  have hbl := Hh B.own0
  by_cases hin : i < C
  · have hd1 : Hid (∀ w' L, Own w6 w' L → (∀ j ∈ L.map (·.1), w6.heap.size ≤ j) → w'.cell? ⟨gd, od + i, none⟩ = some (.int .i64 (D i : Nat))) := fun w' L h hn => hdc'.out w' L h hn i hin
    have hal1 : Hid (∀ B w', B ≤ w'.heap.size → Calls Tryz.prog 75 #[.agg (u8s id).toArray, .int .i64 q, .int .i64 i] w' fun e w'' => ∃ r, e = .returned r ∧ IsCh B (pr i) w'' r ∧ Own w' w'' []) := fun B w' h => hal.out i B w' (by omega) h
    have hde1 : Hid (∀ w', Calls Tryz.prog 72 #[.agg (u8s (id ++ seed)).toArray, .int .i64 q, .int .i64 i] w' fun e w'' => e = .returned (.agg (u8s (S i)).toArray) ∧ Own w' w'' []) := fun w' => hde.out i w' (by omega)
    have hwk1 : Hid (∀ (B : Nat) (w0 w' : World) (L : List Ent) (v : Value), IsCh B (pr i) w' v → Own w0 w' L → w0.heap.size ≤ B → (∀ k ∈ L.map (·.1), k < B) → Calls Tryz.prog 76 #[v, .agg (u8s (S i)).toArray, .int .i64 0, .int .i64 (D i : Nat)] w' fun e w'' => e = .returned (.agg (u8s (X i)).toArray) ∧ ChE B w' w'' ∧ Own w0 w'' L) := fun B w0 w' L v h1 h2 h3 h4 => hwk.out i B w0 w' L v hin h1 h2 h3 h4
    have hxl := Hh (hXl.out i)
    have hst : Hid (A36 ++ flatX X i ++ X i = A36 ++ flatX X (i + 1)) := by show _ = _; rw [flatX_succ, List.append_assoc]
    have hfl : Hid ((A36 ++ flatX X i).length = 36 + 32 * i) := by show _ = _; rw [List.length_append, hAl.out, length_flatX hXl.out]
    obtain ⟨Si, hSi⟩ : ∃ s, s = S i := ⟨_, rfl⟩
    obtain ⟨Xi, hXi⟩ : ∃ s, s = X i := ⟨_, rfl⟩
    obtain ⟨Di, hDi⟩ : ∃ s, s = D i := ⟨_, rfl⟩
    obtain ⟨pi, hpi⟩ : ∃ s, s = pr i := ⟨_, rfl⟩
    rw [← hSi, ← hXi, ← hDi, ← hpi] at hwk1
    rw [← hSi] at hde1
    rw [← hDi] at hd1
    rw [← hpi] at hal1
    rw [← hXi] at hxl hst
    clear hSi hXi hDi hpi
    obtain ⟨Lv, s1, s2, s3⟩ := B
    have hn2 : Hid (∀ k ∈ (Lv ++ [(b13, [u], 79)] : List Ent).map (·.1), w6.heap.size ≤ k) := fun k hk => by
     rw [List.map_append, List.mem_append] at hk
     rcases hk with hk | hk
     · exact s3 k hk
     · simp only [List.map_cons, List.map_nil, List.mem_cons, List.not_mem_nil, or_false] at hk
       subst hk; exact hb13
    have hB2 : Hid (∀ k ∈ (Lv ++ [(b13, [u], 79)] : List Ent).map (·.1), k < wr.heap.size) := fun k hk => by
     obtain ⟨x, hx, rfl⟩ := List.mem_map.1 hk
     exact s2.lt (b := x.1) (cs := x.2.1) (T := x.2.2) hx
    have hB0 := Hh s2.size
    have S1 := Hh s1
    have S2 := Hh s2
    have S3 := Hh s3
    clear s1 s2 s3 hbl
    go_wp2_with (refine st_val rfl (rn_cell rfl rfl rfl rfl (hd1.out _ _ S2.out hn2.out)) ?_)
    refine region_eff 12 (by kernel_rfl) (by kernel_rfl) (by kernel_rfl) [.val (.pointer (some ⟨b4, 0, none⟩)), .val (.agg (u8s id).toArray), .val (.int .i64 q), .val (.int .i64 i), .rel (IsCh wr.heap.size pi), .val (.agg (u8s (id ++ seed)).toArray), .val (.int .i64 q), .val (.int .i64 i), .val (.agg (u8s Si).toArray), .val (.int .i64 Di), .eff (ChE wr.heap.size) (fun _ v => v = .agg (u8s Xi).toArray), .rel (NewC wr.heap.size (u8s (List.replicate 32 0)) 24)] rfl ?_ (by kernel_rfl) (fun _ w' => Own w6 w' (Lv ++ [(b13, [u], 79)]) ∧ wr.heap.size ≤ w'.heap.size) ⟨S2.out, Nat.le_refl _⟩ (fun _ _ _ h1 h2 => ⟨h1.1.call0 h2, Nat.le_trans h1.2 h2.size⟩) ?_
    · simp only [eAll, eRow, Se.pres, or_true, true_and, and_true]
      exact ⟨Or.inr (Or.inr IsCh.presE), Or.inl trivial, Or.inr (Or.inr (NewC.presE (by decide)))⟩
    have z3 := tt
    try go_frame
    repeat (first
     | (clear z3; refine se_run (v := .agg (u8s id).toArray) rfl (fun w' hw' _ => rn_cells rfl rfl rfl rfl hsz.out (by obtain ⟨_, h, _⟩ := hw'; exact c16.out _ _ h hn2.out)) ?_; go_frame; have z4 := tt)
     | (clear z4; refine se_callR (args := #[.agg (u8s id).toArray, .int .i64 q, .int .i64 i]) IsCh.mono rfl rfl (by simp [Act.eval]) Tryz.func75 (by kernel_rfl) (by kernel_rfl) (fun w' hw' _ => hal1.out _ w' (by obtain ⟨_, _, h⟩ := hw'; exact h)) ?_; intro v53; go_frame; have z6 := tt)
     | (clear z6; refine se_run (v := .agg (u8s (id ++ seed)).toArray) rfl (fun w' hw' _ => rn_cells rfl rfl rfl rfl hsz48.out (by obtain ⟨_, h, _⟩ := hw'; exact c48.out _ _ h hn2.out)) ?_; go_frame; have z8 := tt)
     | (clear z8; refine se_callN (v := .agg (u8s Si).toArray) (args := #[.agg (u8s (id ++ seed)).toArray, .int .i64 q, .int .i64 i]) rfl rfl (by simp [Act.eval]) Tryz.func72 (by kernel_rfl) (by kernel_rfl) (fun w' _ _ => hde1.out w') ?_; go_frame; have z10 := tt)
     | (clear z10; refine se_callE (args := #[v53, .agg (u8s Si).toArray, .int .i64 0, .int .i64 Di]) (fun _ _ _ _ h => h) rfl rfl rfl (by simp [Act.eval]) Tryz.func76 (by kernel_rfl) (by kernel_rfl) (fun w' hS hF => (hwk1.out _ _ _ _ _ (hF.2 _ rfl (mE (by kernel_rfl))) hS.1 hB0.out hB2.out).mono fun e w'' ⟨h1, h2, h3⟩ => ⟨_, h1, rfl, h2, h3, by obtain ⟨c, p, y1, y2, _, _, _, _, _, h⟩ := h2; exact Nat.le_trans hS.2 h.size⟩) ?_; intro v59; go_frame; have z11 := tt)
     | (clear z11; refine se_rel NewC.mono rfl (fun w' hw' hF => newC_alloc rfl info_hash (by obtain ⟨_, _, h⟩ := hw'; exact h)) ?_; intro v16; go_frame)
     | (refine se_val (fun w' hw' hF => ?_) ⟨_, rfl, nB rfl⟩ ?_
        · go_big_quiet_step (fail)
          exact rfl
        try go_frame))
    refine se_nil ?_
    intro w11 hS hF
    have e59 := hF.1.2 _ rfl trivial
    obtain ⟨g, e16, hg, hgc⟩ := hF.2 _ rfl trivial
    subst e59 e16
    have B : Buf 5 .u8 w6 w11 [(g, u8s (List.replicate 32 0), 24), (b13, [u], 79)] u (A36 ++ flatX X i) := ⟨Lv, S1.out, (Own.adopt hS.1 hgc (fun hm => by have := hB2.out _ hm; omega)).perm List.perm_middle.symm, S3.out⟩
    have hgn := Hh (Nat.le_trans hB0.out hg)
    clear hS hF hg hgc hal1 hde1 hwk1 hn2 hB2 hB0 S1 S2 S3 hd1
    simp only [List.drop_succ_cons, List.drop_zero]
    have z3 := tt
    go_wp2_with (first
     | (clear z3; refine st_bufPut (vs := u8s Xi) rfl B rfl rfl rfl (size_hashL hxl.out) (by rw [length_ints, length_ints, hxl.out]; rfl) (oneCell_ints _ _) ?_; clear B; intro w12 B; have B2 := B.perm (List.Perm.swap _ _ _); clear B; have B := B2; clear B2; have z4 := tt)
     | (refine st_val rfl (rn_sliceAll rfl rfl size_u8 rfl (by omega)) ?_)
     | (clear z4; go_at_call 39; refine (raw_any _ _ _ _ _ _ B _ Xi (Own.litM (T := 24) B.own0 (.tail _ (.head _)) hxl.out.symm) (by rw [hfl.out, hxl.out]; omega)).mono ?_; rintro e w13 ⟨rfl, v13, B2⟩; rw [hst.out] at B2; clear B; have B3 := B2.perm (List.Perm.swap _ _ _); have B := B3.pop hgn.out; clear B2 B3))
    exact ⟨⟨i + 1, _, by omega, by go_num, B⟩, by simp [intOf]; omega⟩
  · obtain rfl : i = C := by omega
    rw [← hsig.out] at B
    have hRl : Hid (R.length ≤ 140737488355000) := by show _ ≤ _; rw [hsig.out, List.length_append, hAl.out, length_flatX hXl.out]; omega
    clear hbl
    go_wp2_with (go_at_call 40; refine (bytes_any _ b13 u R (B.own0.sub1 (.head _)) B.bytesAt B.lt hRl.out).mono ?_; rintro e w14 ⟨r, rfl, hr, h3⟩; have H := B.own0.call0 h3; clear B h3; have R7 := Hh hr; clear hr)
    have h1 := Hh (H.end0 (by simpa using hb13))
    go_ret2
    exact ⟨_, rfl, R7.out, (H6.out.call0 h1.out).end0 (by simp; omega)⟩
end Go.Proofs.YtfihlmnbonnekaaGreat
