/- ots: Candidate's closure. -/
import Derived.Test.YtfihlmnbonnekaaRdr
namespace Go.Proofs.Ytfihlmnbonnekaa
open Go.RowKit

theorem rn_arrAt {P : Program} {o : Oper} {a : Act} {w : World} {t e : TypeId} {x : Operand} {n len c : Nat} {ad : Option Addr} (ho : o.op = .sliceToArrayPointer t x) (hu : P.underlying t = some (.array n e)) (hx : a.eval x = .slice ad len c) (hn : n ≤ len) : (execOp a.eval o).run P w = .ok (.value (.pointer ad)) w := by
  unfold execOp
  have h : ¬ len < n := by omega
  simp [ho, hx, Instr.arrayAt, Sem.run_bind, run_underlying hu, h]

/-- bytes that are not older than B -/
def UCell (B : Nat) (ys : List Int) (w : World) (g : Nat) : Prop := ∃ cs, B ≤ g ∧ w.heap[g]? = some (.cells (List.toArray cs) 5 (0, 0)) ∧ cs.take ys.length = u8s ys
def UIn (B : Nat) (ys : List Int) : World → Value → Prop := fun w v => ∃ g c, v = .slice (some ⟨g, 0, none⟩) ys.length c ∧ ys.length ≤ c ∧ UCell B ys w g
def PIn (B : Nat) (ys : List Int) : World → Value → Prop := fun w v => ∃ g, v = .pointer (some ⟨g, 0, none⟩) ∧ UCell B ys w g
theorem UCell.mono {B : Nat} {ys : List Int} {w w' : World} {g : Nat} (h : UCell B ys w g) (ho : Own w w' []) : UCell B ys w' g := by
  obtain ⟨cs, h1, h2, h3⟩ := h
  exact ⟨cs, h1, by rw [ho.keep g (Array.getElem?_eq_some_iff.1 h2).1 (by simp)]; exact h2, h3⟩
theorem UIn.mono (B : Nat) (ys : List Int) : Mono (UIn B ys) := fun _ _ _ h ⟨g, c, h1, h0, h2⟩ => ⟨g, c, h1, h0, h2.mono h⟩
theorem PIn.mono (B : Nat) (ys : List Int) : Mono (PIn B ys) := fun _ _ _ h ⟨g, h1, h2⟩ => ⟨g, h1, h2.mono h⟩
theorem UCell.chE {B : Nat} {ys : List Int} {w w' : World} {g : Nat} (h : UCell B ys w g) (he : ChE B w w') : UCell B ys w' g := by
  obtain ⟨cs, h1, h2, h3⟩ := h
  obtain ⟨c, p0, y1, y2, _, _, _, _, hc, ho⟩ := he
  have e : g ≠ c := by
    rintro rfl
    rw [hc] at h2
    have := Option.some.inj h2
    simp only [Obj.cells.injEq, and_true] at this
    exact absurd this.2 (by decide)
  exact ⟨cs, h1, by rw [ho.keep g (Array.getElem?_eq_some_iff.1 h2).1 (by simpa using e)]; exact h2, h3⟩
theorem UIn.presE {B : Nat} {ys : List Int} : ∀ w1 w2 v, ChE B w1 w2 → UIn B ys w1 v → UIn B ys w2 v := fun _ _ _ h ⟨g, c, h1, h0, h2⟩ => ⟨g, c, h1, h0, h2.chE h⟩
theorem PIn.presE {B : Nat} {ys : List Int} : ∀ w1 w2 v, ChE B w1 w2 → PIn B ys w1 v → PIn B ys w2 v := fun _ _ _ h ⟨g, h1, h2⟩ => ⟨g, h1, h2.chE h⟩
theorem UIn.bin {B : Nat} {ys : List Int} {w : World} {v : Value} (h : UIn B ys w v) : BIn ys w v := by
  obtain ⟨g, c, rfl, h0, cs, _, h2, h3⟩ := h
  refine ⟨⟨_, _, rfl⟩, Or.inr ⟨g, 0, c, rfl, ⟨h0, fun h => by rw [List.eq_nil_of_length_eq_zero h]; rfl⟩, fun i x hx => ?_⟩, fun k hk => ?_⟩
  · rw [Nat.zero_add, cell_of_row w g i _ _ _ h2]
    have hi : i < ys.length := by have := (List.getElem?_eq_some_iff.1 hx).1; simpa using this
    rw [← h3, List.getElem?_take_of_lt hi] at hx
    simpa using hx
  · obtain rfl := (blk_some hk).1
    exact (Array.getElem?_eq_some_iff.1 h2).1

/-- a step that turns the reader's block -/
def RdE (B r : Nat) : World → World → Prop := fun w1 w2 => r < B ∧ (∃ c d, (∀ k z, c ≠ .int k z) ∧ (∀ k z, d ≠ .int k z) ∧ w1.heap[r]? = some (.cells #[c, d] 132 (0, 0))) ∧ ∃ cs, Own w1 w2 [(r, cs, 132)]
theorem IsCh.presR {B r : Nat} {pre : List Int} : ∀ w1 w2 v, RdE B r w1 w2 → IsCh B pre w1 v → IsCh B pre w2 v := fun w1 w2 v ⟨hr, _, cs, ho⟩ ⟨c, ys, h1, h2, h3, h4, h5⟩ => ⟨c, ys, h1, h2, h3, h4, by rw [ho.keep c (Array.getElem?_eq_some_iff.1 h5).1 (by simp; omega)]; exact h5⟩

set_option maxRecDepth 100000 in
set_option maxHeartbeats 4000000 in
theorem candcl_any (w : World) (id : List Int) (h16 : id.length = 16) (q i t d : Nat) (hq : q < 32) (hi : i < 300) (ht : t ≤ 255) (hd : d ≤ t) (p5 p6 p12 p13 p15 r n c gd od C cd : Nat) (p : Option Addr) (xs : List Int) (hiC : i < C)
    (H0 : Own w w [(r, [.slice p n c, .bool false], 132)]) (hs : BytesAt w (.slice p n c) xs) (hn : n = xs.length) (hm : 32 ≤ n) (hn9 : n ≤ 1000000) (hne : ∀ k, blk (Value.slice p n c) = some k → k ≠ r)
    (h5 : ∀ j v, (u8s id)[j]? = some v → w.cell? ⟨p5, 0 + j, none⟩ = some v) (h6 : w.cell? ⟨p6, 0, none⟩ = some (.int .i64 q)) (h12 : w.cell? ⟨p12, 0, none⟩ = some (.pointer (some ⟨r, 0, none⟩))) (h13 : w.cell? ⟨p13, 0, none⟩ = some (.slice (some ⟨gd, od, none⟩) C cd)) (hdc : w.cell? ⟨gd, od + i, none⟩ = some (.int .i64 d)) (h15 : w.cell? ⟨p15, 0, none⟩ = some (.int .i64 t))
    (hlt : (p5 < w.heap.size ∧ p6 < w.heap.size ∧ p12 < w.heap.size ∧ p13 < w.heap.size ∧ p15 < w.heap.size ∧ gd < w.heap.size) ∧ (p5 ≠ r ∧ p6 ≠ r ∧ p12 ≠ r ∧ p13 ≠ r ∧ p15 ≠ r ∧ gd ≠ r)) :
    Calls Try.prog 85 #[.int .i64 i, .pointer (some ⟨p5, 0, none⟩), .pointer (some ⟨p6, 0, none⟩), .pointer (some ⟨p12, 0, none⟩), .pointer (some ⟨p13, 0, none⟩), .pointer (some ⟨p15, 0, none⟩)] w fun e w' => e = .returned (.agg (u8s (stepsC (pre22 id q i) d (xs.take 32) (t - d))).toArray) ∧ ∃ p' c', Own w w' [(r, [.slice p' (n - 32) c', .bool false], 132)] ∧ BytesAt w' (.slice p' (n - 32) c') (xs.drop 32) ∧ ∀ k, blk (Value.slice p' (n - 32) c') = some k → blk (Value.slice p n c) = some k := by
  have H := H0
  have hal : Hid (∀ B w', B ≤ w'.heap.size → Calls Try.prog 86 #[.agg (u8s id).toArray, .int .i64 q, .int .i64 i] w' fun e w'' => ∃ r, e = .returned r ∧ IsCh B (pre22 id q i) w'' r ∧ Own w' w'' []) := fun B w' h => along_ch B w' id h16 q i hq (by omega) h
  obtain ⟨x, hx⟩ : ∃ x, x = xs.take 32 := ⟨_, rfl⟩
  have hxl : x.length = 32 := by rw [hx, List.length_take]; omega
  obtain ⟨pre, hpre⟩ : ∃ p, p = pre22 id q i := ⟨_, rfl⟩
  obtain ⟨R, hR⟩ : ∃ R, R = stepsC pre d x (t - d) := ⟨_, rfl⟩
  have hRl : Hid (R.length = 32) := by show _ = _; rw [hR]; exact length_stepsC hxl _
  rw [← hx, ← hpre, ← hR]
  rw [← hpre] at hal
  have hwk : Hid (∀ (B : Nat) (w0 w' : World) (L : List Ent) (v : Value), IsCh B pre w' v → Own w0 w' L → w0.heap.size ≤ B → (∀ k ∈ L.map (·.1), k < B) → Calls Try.prog 87 #[v, .agg (u8s x).toArray, .int .i64 d, .int .i64 t] w' fun e w'' => e = .returned (.agg (u8s R).toArray) ∧ ChE B w' w'' ∧ Own w0 w'' L) := fun B w0 w' L v h1 h2 h3 h4 => by
    have h := walk_ch h1 h2 h3 h4 d t hd (by omega) x hxl
    rw [← hR] at h
    exact h
  have hrl : r < w.heap.size := H.lt (.head _)
  have hraw : Hid (∀ w', Own w' w' [(r, [.slice p n c, .bool false], 132)] → BytesAt w' (.slice p n c) xs → Calls Try.prog 52 #[.pointer (some ⟨r, 0, none⟩), .int .i64 32] w' fun e w'' => ∃ v p' c', e = .returned v ∧ Buf 5 .u8 w' w'' [(r, [.slice p' (n - 32) c', .bool false], 132)] v x ∧ BytesAt w'' (.slice p' (n - 32) c') (xs.drop 32) ∧ ∀ k, blk (Value.slice p' (n - 32) c') = some k → blk (Value.slice p n c) = some k) := fun w' h1 h2 => by rw [hx]; exact rraw_any w' r n c 32 p xs h1 h2 hn hm hn9 hne
  have hbs : Hid (∀ w' L, Own w w' L → (∀ k ∈ L.map (·.1), k = r ∨ w.heap.size ≤ k) → BytesAt w' (.slice p n c) xs) := fun w' L h hL => by
    rcases hs with ⟨⟨_, e1⟩, e2, e3⟩ | ⟨b, off, c2, e1, e2, e3⟩
    · exact Or.inl ⟨⟨_, e1⟩, e2, e3⟩
    · refine Or.inr ⟨b, off, c2, e1, e2, fun j v hj => h.old (e3 j v hj) (fun hm2 => ?_)⟩
      have e4 : b < w.heap.size := World.block_lt_of_cell? w _ (e3 j v hj)
      rcases hL _ hm2 with e5 | e5
      · exact hne b (by
          cases e1
          show (if c = 0 then none else some b) = some b
          rw [if_neg (by omega)]) e5
      · omega
  have hbl : Hid (∀ k, blk (Value.slice p n c) = some k → k < w.heap.size) := fun k hk => by
    rcases hs with ⟨_, e2, e3⟩ | ⟨b, off, c2, e1, e2, e3⟩
    · omega
    · cases e1
      obtain rfl := (blk_some hk).1
      obtain ⟨y, hy⟩ : ∃ y, (u8s xs)[0]? = some y := ⟨_, ints_get (by omega)⟩
      exact World.block_lt_of_cell? w _ (e3 0 y hy)
  have hsz := Lib.hid (size_idL h16)
  have hszx := Lib.hid (size_hashL hxl)
  have hxl' := Lib.hid hxl
  obtain ⟨⟨l5, l6, l12, l13, l15, lgd⟩, e5, e6, e12, e13, e15, egd⟩ := hlt
  have c5 : Hid (∀ w' L, Own w w' L → (∀ k ∈ L.map (·.1), k = r ∨ w.heap.size ≤ k) → ∀ j v, (u8s id)[j]? = some v → w'.cell? ⟨p5, 0 + j, none⟩ = some v) := fun w' L h hL j v hj => h.old (h5 j v hj) (fun hm2 => by have := hL _ hm2; omega)
  have c6 : Hid (∀ w' L, Own w w' L → (∀ k ∈ L.map (·.1), k = r ∨ w.heap.size ≤ k) → w'.cell? ⟨p6, 0, none⟩ = some (.int .i64 q)) := fun w' L h hL => h.old h6 (fun hm2 => by have := hL _ hm2; omega)
  have c12 : Hid (∀ w' L, Own w w' L → (∀ k ∈ L.map (·.1), k = r ∨ w.heap.size ≤ k) → w'.cell? ⟨p12, 0, none⟩ = some (.pointer (some ⟨r, 0, none⟩))) := fun w' L h hL => h.old h12 (fun hm2 => by have := hL _ hm2; omega)
  have c13 : Hid (∀ w' L, Own w w' L → (∀ k ∈ L.map (·.1), k = r ∨ w.heap.size ≤ k) → w'.cell? ⟨p13, 0, none⟩ = some (.slice (some ⟨gd, od, none⟩) C cd)) := fun w' L h hL => h.old h13 (fun hm2 => by have := hL _ hm2; omega)
  have c15 : Hid (∀ w' L, Own w w' L → (∀ k ∈ L.map (·.1), k = r ∨ w.heap.size ≤ k) → w'.cell? ⟨p15, 0, none⟩ = some (.int .i64 t)) := fun w' L h hL => h.old h15 (fun hm2 => by have := hL _ hm2; omega)
  have cdc : Hid (∀ w' L, Own w w' L → (∀ k ∈ L.map (·.1), k = r ∨ w.heap.size ≤ k) → w'.cell? ⟨gd, od + i, none⟩ = some (.int .i64 d)) := fun w' L h hL => h.old hdc (fun hm2 => by have := hL _ hm2; omega)
  have hrl' := Lib.hid hrl
  clear H0 hs hn hne h5 h6 h12 h13 hdc h15 l5 l6 l12 l13 l15 lgd e5 e6 e12 e13 e15 egd hxl hR hx hpre h16 hrl
  go_enter Try.func85, Try.ntmps85
  go_wp2_with (refine st_new rfl (rn_alloc H rfl info_hash) ?_; clear H; intro b7 w2 hb7 H)
  have hBk : Hid (∀ (cs : List Value) k, k ∈ ([(b7, u8s (List.replicate 32 0), 28), (r, cs, 132)] : List Ent).map (·.1) → k < w2.heap.size ∧ (k = r ∨ w.heap.size ≤ k)) := fun cs k hk => by
    simp only [List.map_cons, List.map_nil, List.mem_cons, List.not_mem_nil, or_false] at hk
    rcases hk with rfl | rfl
    · exact ⟨H.lt (.head _), Or.inr hb7⟩
    · exact ⟨H.lt (.tail _ (.head _)), Or.inl rfl⟩
  have hB0 := Lib.hid H.size
  have hnd := Lib.hid H.nodup
  have H2' := Lib.hid H
  clear H
  obtain ⟨St, hSt⟩ : ∃ St : Nat → World → Prop, St = fun s w' => w2.heap.size ≤ w'.heap.size ∧ (match s with
      | 0 => Own w w' [(b7, u8s (List.replicate 32 0), 28), (r, [.slice p n c, .bool false], 132)]
      | _ => ∃ p' c', Own w w' [(b7, u8s (List.replicate 32 0), 28), (r, [.slice p' (n - 32) c', .bool false], 132)] ∧ BytesAt w' (.slice p' (n - 32) c') (xs.drop 32) ∧ ∀ k, blk (Value.slice p' (n - 32) c') = some k → blk (Value.slice p n c) = some k) := ⟨_, rfl⟩
  have hSa : Hid (∀ s w', St s w' → w2.heap.size ≤ w'.heap.size ∧ ∃ cs, Own w w' [(b7, u8s (List.replicate 32 0), 28), (r, cs, 132)]) := fun s w' h => by
    rw [hSt] at h
    cases s with
    | zero => exact ⟨h.1, _, h.2⟩
    | succ s => obtain ⟨h1, p', c', h2, _⟩ := h; exact ⟨h1, _, h2⟩
  have hSb : Hid (∀ w', (∃ s, St s w') → ∃ L, Own w w' L ∧ ∀ k ∈ L.map (·.1), k = r ∨ w.heap.size ≤ k) := fun w' ⟨s, h⟩ => by
    obtain ⟨_, cs, h2⟩ := hSa.out s w' h
    exact ⟨_, h2, fun k hk => (hBk.out cs k hk).2⟩
  have hS0 : Hid (∀ w', St 0 w' ↔ w2.heap.size ≤ w'.heap.size ∧ Own w w' [(b7, u8s (List.replicate 32 0), 28), (r, [.slice p n c, .bool false], 132)]) := fun w' => by rw [hSt]; exact Iff.rfl
  have hS1 : Hid (∀ s w', St (s + 1) w' ↔ w2.heap.size ≤ w'.heap.size ∧ ∃ p' c', Own w w' [(b7, u8s (List.replicate 32 0), 28), (r, [.slice p' (n - 32) c', .bool false], 132)] ∧ BytesAt w' (.slice p' (n - 32) c') (xs.drop 32) ∧ ∀ k, blk (Value.slice p' (n - 32) c') = some k → blk (Value.slice p n c) = some k) := fun s w' => by rw [hSt]; exact Iff.rfl
  have hSm : Hid (∀ s w1 w2, St s w1 → Own w1 w2 [] → St s w2) := fun s w1 w3 h1 h2 => by
    rw [hSt] at h1 ⊢
    cases s with
    | zero => exact ⟨Nat.le_trans h1.1 h2.size, h1.2.call0 h2⟩
    | succ s => obtain ⟨h3, p', c', h4, h5, h6⟩ := h1; exact ⟨Nat.le_trans h3 h2.size, p', c', h4.call0 h2, SlAt.own0 h5 h2, h6⟩
  clear hSt
  refine region_eff 14 (by kernel_rfl) (by kernel_rfl) (by kernel_rfl) [.val (.agg (u8s id).toArray), .val (.int .i64 q), .val (.int .i64 i), .rel (IsCh w2.heap.size pre), .val (.pointer (some ⟨r, 0, none⟩)), .eff (RdE w2.heap.size r) (UIn w2.heap.size x), .rel (PIn w2.heap.size x), .val (.agg (u8s x).toArray), .val (.slice (some ⟨gd, od, none⟩) C cd), .val (.int .i64 i), .val (.pointer (some ⟨gd, od + i, none⟩)), .val (.int .i64 d), .val (.int .i64 t), .eff (ChE w2.heap.size) (fun _ v => v = .agg (u8s R).toArray)] rfl ?_ (by kernel_rfl) St ((hS0.out _).2 ⟨Nat.le_refl _, H2'.out⟩) hSm.out ?_
  · simp only [eAll, eRow, Se.pres, or_true, true_and, and_true]
    exact ⟨⟨Or.inr (Or.inr IsCh.presR), Or.inl trivial, Or.inr (Or.inl (by kernel_rfl)), Or.inr (Or.inr fun _ _ _ _ h => h)⟩, Or.inr (Or.inr IsCh.presE), Or.inr (Or.inr UIn.presE), Or.inr (Or.inr PIn.presE), Or.inl trivial⟩
  have tok3 : True := trivial
  try go_frame
  repeat (first
    | (clear tok3; refine se_run (v := .agg (u8s id).toArray) rfl (fun w' hw' _ => rn_cells rfl rfl rfl rfl hsz.out (by obtain ⟨L, q1, q2⟩ := hSb.out w' hw'; exact c5.out _ _ q1 q2)) ?_; go_frame; have tok4 : True := trivial)
    | (clear tok4; refine se_run (v := .int .i64 q) rfl (fun w' hw' _ => rn_cell rfl rfl rfl rfl (by obtain ⟨L, q1, q2⟩ := hSb.out w' hw'; exact c6.out _ _ q1 q2)) ?_; go_frame; have tok5 : True := trivial)
    | (clear tok5; refine se_callR (args := #[.agg (u8s id).toArray, .int .i64 q, .int .i64 i]) IsCh.mono rfl rfl (by simp [Act.eval]) Try.func86 (by kernel_rfl) (by kernel_rfl) (fun w' hw' _ => hal.out _ w' (by obtain ⟨s, q1⟩ := hw'; exact (hSa.out s w' q1).1)) ?_; intro v11; go_frame; have tok6 : True := trivial)
    | (clear tok6; refine se_run (v := .pointer (some ⟨r, 0, none⟩)) rfl (fun w' hw' _ => rn_cell rfl rfl rfl rfl (by obtain ⟨L, q1, q2⟩ := hSb.out w' hw'; exact c12.out _ _ q1 q2)) ?_; go_frame; have tok7 : True := trivial)
    | (clear tok7; refine se_callE (args := #[.pointer (some ⟨r, 0, none⟩), .int .i64 32]) (UIn.mono _ _) rfl rfl rfl (by simp [Act.eval]) Try.func52 (by kernel_rfl) (by kernel_rfl) (fun w' hS hF => ?_) ?_
       · obtain ⟨q1, q2⟩ := (hS0.out w').1 hS
         refine (hraw.out w' (q2.sub1 (.tail _ (.head _))) (hbs.out w' _ q2 (fun k hk => (hBk.out _ k hk).2))).mono ?_
         rintro e w'' ⟨v, p', c', rfl, ⟨Lv, ⟨g1, g2⟩, g3, g4⟩, q3, q4⟩
         have ho := Own.drop g3 g4
         refine ⟨v, rfl, ?_, ⟨Nat.lt_of_lt_of_le hrl'.out hB0.out, ⟨.slice p n c, .bool false, (fun _ _ h => by cases h), (fun _ _ h => by cases h), q2.here _ _ _ (.tail _ (.head _))⟩, _, ho⟩, (hS1.out 0 w'').2 ⟨Nat.le_trans q1 ho.size, p', c', Own.callAt (L1 := [_]) q2 ho, q3, q4⟩⟩
         rcases g2 with ⟨_, g5, _⟩ | ⟨g, cap, cs, g5, rfl, g6, g7, g8, g9⟩
         · have := hxl'.out; omega
         · exact ⟨g, cap, g5, g6, cs, Nat.le_trans q1 (g4 g (by simp)), g3.here _ _ _ (.head _), by rw [Nat.mul_one] at g9; exact g9⟩
       intro v13; go_frame; have tok8 : True := trivial)
    | (clear tok8; refine se_rel (PIn.mono _ _) rfl (fun w' hw' hF => ?_) ?_
       · obtain ⟨g, c1, e1, _, q1⟩ := hF.2 _ rfl (List.mem_of_elem_eq_true (by kernel_rfl))
         subst e1
         exact yieldsTo_val' (rn_arrAt rfl rfl rfl (by rw [hxl'.out]; exact Nat.le_refl _)) ⟨Own.refl _, g, rfl, q1⟩
       intro v14; go_frame; have tok9 : True := trivial)
    | (clear tok9; refine se_run (v := .agg (u8s x).toArray) rfl (fun w' hw' hF => ?_) ?_
       · obtain ⟨g, e1, cs, q0, q1, q2⟩ := hF.2 _ rfl (List.mem_of_elem_eq_true (by kernel_rfl))
         subst e1
         refine rn_cells rfl rfl rfl rfl hszx.out (fun j v hj => ?_)
         have hjl : j < (u8s x).length := (List.getElem?_eq_some_iff.1 hj).1
         rw [length_ints] at hjl
         rw [Nat.zero_add, cell_of_row w' g j _ _ _ q1]
         rw [← q2, List.getElem?_take_of_lt hjl] at hj
         simpa using hj
       go_frame; have tok10 : True := trivial)
    | (clear tok10; refine se_run (v := .slice (some ⟨gd, od, none⟩) C cd) rfl (fun w' hw' _ => rn_cell rfl rfl rfl rfl (by obtain ⟨L, q1, q2⟩ := hSb.out w' hw'; exact c13.out _ _ q1 q2)) ?_; go_frame; have tok11 : True := trivial)
    | (clear tok11; refine se_run (v := .int .i64 d) rfl (fun w' hw' _ => rn_cell rfl rfl rfl rfl (by obtain ⟨L, q1, q2⟩ := hSb.out w' hw'; exact cdc.out _ _ q1 q2)) ?_; go_frame; have tok12 : True := trivial)
    | (clear tok12; refine se_run (v := .int .i64 t) rfl (fun w' hw' _ => rn_cell rfl rfl rfl rfl (by obtain ⟨L, q1, q2⟩ := hSb.out w' hw'; exact c15.out _ _ q1 q2)) ?_; go_frame; have tok13 : True := trivial)
    | (clear tok13; refine se_callE (args := #[v11, .agg (u8s x).toArray, .int .i64 d, .int .i64 t]) (fun _ _ _ _ h => h) rfl rfl rfl (by simp [Act.eval]) Try.func87 (by kernel_rfl) (by kernel_rfl) (fun w' hS hF => ?_) ?_
       · obtain ⟨q1, p', c', q2, q3, q4⟩ := (hS1.out 0 w').1 hS
         refine (hwk.out _ _ _ _ _ (hF.1.1.2 _ rfl (List.mem_of_elem_eq_true (by kernel_rfl))) q2 hB0.out (fun k hk => (hBk.out _ k hk).1)).mono ?_
         rintro e w'' ⟨rfl, q5, q6⟩
         have q5' := q5
         obtain ⟨cc, p0, y1, y2, r1, _, _, _, r2, ho⟩ := q5'
         refine ⟨_, rfl, rfl, q5, (hS1.out 1 w'').2 ⟨Nat.le_trans q1 ho.size, p', c', q6, ?_, q4⟩⟩
         refine SlAt.own q3 ho (fun k hk hm2 => ?_)
         simp at hm2
         have hkw := hbl.out k (q4 k hk)
         have := hB0.out
         omega
       intro v21; go_frame)
    | (refine se_val (fun w' hw' hF => ?_) ⟨_, rfl, Nat.le_of_ble_eq_true rfl⟩ ?_
       · go_big_quiet_step (fail)
         exact rfl
       try go_frame))
  refine se_nil ?_
  intro w5 hS hF
  have e21 := hF.2 _ rfl trivial
  subst e21
  obtain ⟨_, p', c', H, q3, q4⟩ := (hS1.out 1 w5).1 hS
  have q3' := Lib.hid q3
  have q4' := Lib.hid q4
  have M := H.sub1 (.head _)
  have H5 := Lib.hid H
  clear H
  clear hS hF H2' hal hwk hraw hbs hSa hSb hS0 hS1 hSm c5 c6 c12 c13 c15 cdc q3 q4 hBk
  simp only [List.drop_succ_cons, List.drop_zero]
  go_wp2_with (refine st_skip rfl (rn_storeAll (vs := u8s R) M rfl rfl rfl (size_hashL hRl.out) .head (by rw [length_ints, length_ints, hRl.out]; rfl) (oneCell_ints _ _)) ?_; clear M; intro w8 M)
  refine fin_cell (cs := u8s R) rfl M rfl (.head _) rfl rfl (size_hashL hRl.out) rfl ⟨rfl, p', c', ?_, ?_, q4'.out⟩
  · exact Own.drop (L1 := [_]) (Own.call1 H5.out M) (by simpa using hb7)
  · refine SlAt.own q3'.out M (fun k hk hm2 => ?_)
    simp at hm2
    subst hm2
    have := hbl.out k (q4'.out k hk)
    omega

end Go.Proofs.Ytfihlmnbonnekaa
