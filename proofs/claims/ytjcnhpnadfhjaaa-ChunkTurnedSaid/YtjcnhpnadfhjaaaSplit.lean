/- chunk.Split: a range over slices.Chunk. -/
import Derived.Test.YtjcnhpnadfhjaaaIter
import Derived.Test.YtjcnhpnadfhjaaaKeep
namespace Go.Proofs.Ytjcnhpnadfhjaaa
open Go.RowKit

set_option maxRecDepth 100000 in
set_option maxHeartbeats 1000000 in
theorem chunkf_any (w : World) (p : Option Addr) (n c : Nat) :
    Calls Try.prog 17 #[.slice p n c, .int .i64 256] w fun e w' => ∃ B1 B2, e = .returned (.func (.func 26) #[] #[.pointer (some ⟨B1, 0, none⟩), .pointer (some ⟨B2, 0, none⟩)]) ∧ w.heap.size ≤ B1 ∧ w.heap.size ≤ B2 ∧ Own w w' [(B2, [.int .i64 256], 3), (B1, [.slice p n c], 25)] := by
  have H := Own.refl w
  have tok1 : True := trivial
  go_enter Try.func17, Try.ntmps17
  go_wp2_with (first
    | (clear tok1; refine st_new rfl (rn_box (cs := [.slice p n c]) H rfl rfl rfl) ?_; clear H; intro B1 w1 hb1 H; have tok2 : True := trivial)
    | (clear tok2; refine st_new rfl (rn_box (cs := [.int .i64 256]) H rfl rfl rfl) ?_; clear H; intro B2 w2 hb2 H)
    | (refine st_val rfl (rn_load H rfl rfl (.head _) rfl rfl rfl) ?_))
  go_ret
  exact ⟨B1, B2, rfl, hb1, hb2, H⟩

set_option maxRecDepth 100000 in
set_option maxHeartbeats 1000000 in
theorem chunk0_in (l B1 B2 c0 : Nat) (p : Option Addr) (J : List (Ix 0) → World → Prop)
    (W : World) (h1 : W.heap[B1]? = some (.cells #[.slice p 0 c0] 25 (0, 0))) (h0 : J [] W) :
    CallsIn Fence.wide 4 Try.prog 26 #[.func (.yield l) #[] #[], .pointer (some ⟨B1, 0, none⟩), .pointer (some ⟨B2, 0, none⟩)] W fun e W' => (∃ v, e = .returned v) ∧ J [] W' := by
  refine callsIn_of_wp Try.func26 rfl trivial ?_ rfl
  simp only [Try.ntmps26, List.size_toArray, List.length_cons, List.length_nil, Nat.reduceAdd, Nat.reduceSub, Array.replicate_succ, Array.replicate_zero, List.push_toArray, List.append_toArray, List.nil_append, List.cons_append]
  gi_wp2
  gi_loopw [4, 5] (fun v4 _ wr => v4 = .int .i64 0 ∧ J [] wr ∧ wr.heap[B1]? = some (.cells #[.slice p 0 c0] 25 (0, 0))) (fun _ _ _ => 0)
  case atStart => exact ⟨rfl, h0, h1⟩
  case round =>
    obtain ⟨rfl, hJ, h1⟩ := hrel
    have hc1 : wr.cell? ⟨B1, 0, none⟩ = some (.slice p 0 c0) := by rw [cell_of_row wr B1 0 _ _ _ h1]; rfl
    gi_wp2
    go_end0
    exact ⟨⟨_, rfl⟩, hJ⟩

/-- a literal of one slice -/
def OneS (x : Value) : World → Value → Prop := fun w v => (∃ p c, v = .slice p 1 c) ∧ SlAt w v 1 [x]

theorem lit_oneS {P : Program} {o : Oper} {a : Act} {w : World} {e t : TypeId} {x : Value} {parts : Array (Nat × Operand)} (ho : o.op = .buildSlice t 1 parts)
    (hf : ∀ w', (Instr.buildSlice t 1 (parts.map fun (i, x) => (i, a.eval x))).run P w' = .ok (.slice (some ⟨w'.heap.size, 0, none⟩) 1 1) (w'.alloc (.cells [x].toArray e))) :
    YieldsTo P o a w (fun v w2 => Own w w2 [] ∧ OneS x w2 v) := by
  obtain ⟨nn, w2, hr, hnn, ho1⟩ := rn_buildSlice (o := o) (a := a) (Own.refl w) ho hf
  exact yieldsTo_val' hr ⟨ho1.end0 (by simpa using hnn), ⟨_, _, rfl⟩, Or.inr ⟨nn, 0, 1, rfl, ⟨Nat.le_refl _, by omega⟩, fun i x hx => by rw [ho1.cell (.head _), Nat.zero_add]; exact hx⟩⟩

/-- x[:len(x):len(x)] -/
theorem rn_whole {P : Program} {o : Oper} {a : Act} {w : World} {t : TypeId} {x hi mx : Operand} (ho : o.op = .slice t x none (some hi) (some mx)) {e : TypeId} (hu : P.underlying t = some (.slice e)) (hs : (P.info? e).map (·.size) = some 1) {b off m : Nat} (hx : a.eval x = .slice (some ⟨b, off, none⟩) m m)
    (h1 : a.eval hi = .int .i64 m) (h2 : a.eval mx = .int .i64 m) : (execOp a.eval o).run P w = .ok (.value (.slice (some ⟨b, off, none⟩) m m)) w := by
  unfold execOp
  simp only [ho, hx, Option.map_some, Option.map_none, h1, h2]
  by_cases hm : m = 0
  · subst hm
    simp [Instr.sliceAt, Instr.slice, Instr.sliceBounds, Instr.sliceBound, asIntOf, Sem.run_bind, run_underlying hu, run_sizeOf hs]
  · simp [Instr.sliceAt, Instr.slice, Instr.sliceBounds, Instr.sliceBound, asIntOf, Sem.run_bind, run_underlying hu, run_sizeOf hs, add_plain]

/-- what holds between two rounds -/
def Inv (w1 : World) (b3 B1 B2 b off n : Nat) (sv : Value) (pre : List (Ix n)) (W : World) : Prop :=
  ∃ p c, BufV 25 1 w1 W [(b3, [.slice p pre.length c], 24), (B1, [sv], 25), (B2, [.int .i64 256], 3)] (.slice p pre.length c) pre.length (pre.map fun x => pieceVal b off n x.1)

theorem Inv.kp {w1 : World} {b3 B1 B2 b off n : Nat} {sv : Value} {pre pre' : List (Ix n)} {W W' : World} (h : Inv w1 b3 B1 B2 b off n sv pre W) (h' : Inv w1 b3 B1 B2 b off n sv pre' W') : KpB B1 B2 W W' := by
  obtain ⟨p, c, B⟩ := h
  obtain ⟨p', c', B'⟩ := h'
  exact ⟨(B'.own0.here B1 [sv] 25 (.tail _ (.head _))).trans (B.own0.here B1 [sv] 25 (.tail _ (.head _))).symm, (B'.own0.here B2 [.int .i64 256] 3 (.tail _ (.tail _ (.head _)))).trans (B.own0.here B2 [.int .i64 256] 3 (.tail _ (.tail _ (.head _)))).symm⟩

theorem Inv.from {w1 : World} {b3 B1 B2 b off n B : Nat} {sv : Value} (hB : w1.heap.size ≤ B) : OwnFrom B (fun (pre : List (Ix n)) W => Inv w1 b3 B1 B2 b off n sv pre W) :=
  fun _ _ _ _ ⟨p, c, h⟩ hg hr => ⟨p, c, h.grown hg hr hB⟩

theorem KpB.putObj {B1 B2 : Nat} {w : World} (h1 : B1 < w.heap.size) (h2 : B2 < w.heap.size) (W : World) (l : Nat) (o' : Obj) (hl : w.heap.size ≤ l) : KpB B1 B2 W (W.putObj l o') :=
  ⟨World.putObj_heap_other (by omega), World.putObj_heap_other (by omega)⟩

theorem perm3 {α : Type} (x y z : α) : [x, y, z].Perm [z, y, x] := List.reverse_perm [z, y, x]

theorem piece_old {w : World} {b off n c i : Nat} {bs : List Int} (h : Old w (.slice (some ⟨b, off, none⟩) n c) bs) (hn : n = bs.length) (hi : 256 * i < n) : Old w (pieceVal b off n i) (pc bs i) ∧ (∃ p c, pieceVal b off n i = .slice p (pc bs i).length c) := by
  have hlen : (pc bs i).length = min 256 (n - 256 * i) := by unfold pc; rw [List.length_take, List.length_drop, hn]
  refine ⟨⟨?_, fun k hk => ?_⟩, ⟨_, _, by unfold pieceVal; rw [hlen]⟩⟩
  · unfold BytesAt pieceVal
    rw [hlen]
    refine Or.inr ⟨b, off + 256 * i, _, rfl, ⟨Nat.le_refl _, fun h0 => by omega⟩, fun j x hx => ?_⟩
    rcases h.1.cell with ⟨⟨p, hp⟩, hb⟩ | ⟨b', off', cap, hv, _, hc⟩
    · cases hp; omega
    · cases hv
      have hj : j < (pc bs i).length := by
        have := (List.getElem?_eq_some_iff.1 hx).1
        rwa [length_ints] at this
      have h2 := hc (256 * i + j) (by rw [hlen] at hj; omega)
      rw [ints_get hj] at hx
      cases hx
      rw [Nat.add_assoc, h2]
      unfold pc
      rw [List.getElem?_take, if_pos (by rw [hlen] at hj; omega), List.getElem?_drop]
  · unfold pieceVal at hk
    have hb := (blk_some hk).1
    subst hb
    exact h.2 b (by simp only [blk]; rw [if_neg]; rcases h.1.cell with ⟨⟨p, hp⟩, _⟩ | ⟨b', off', cap, hv, hcap, _⟩
                    · cases hp; omega
                    · cases hv; omega)

set_option maxRecDepth 100000 in
set_option maxHeartbeats 4000000 in
theorem split_any (w : World) (v : Value) (bs : List Int) (hO : Old w v bs) (hr : ∀ j, j < bs.length → 0 ≤ bs[j]?.getD 0 ∧ bs[j]?.getD 0 < 256) (hl : bs.length ≤ 1000000) :
    Calls Try.prog 10 #[v] w fun e w' => ∃ r ls, e = .returned r ∧ OldL w' r ls ∧ ls.map (·.2) = pcs bs (np bs.length) ∧ Own w w' [] := by
  have H := Own.refl w
  obtain ⟨p0, c0, rfl⟩ := hO.shape
  obtain ⟨n, hn⟩ : ∃ n, n = bs.length := ⟨_, rfl⟩
  rw [← hn] at hO hl ⊢
  have O := Lib.hid hO
  have hr' := Lib.hid hr
  have hn' := Lib.hid hn
  clear hO hr hn
  have info_bb : ((Try.prog.info? 24).bind (·.zero)).map (fun z => z.cells.toList) = some [.slice none 0 0] := by kernel_rfl
  refine callsIn_wide.1 (callsIn_of_wp_marks (F := Fence.wide) (n := 5) Try.func10 rfl trivial ?_ rfl)
  simp only [Try.ntmps10, List.size_toArray, List.length_cons, List.length_nil, Nat.reduceAdd, Nat.reduceSub, Array.replicate_succ, Array.replicate_zero, List.push_toArray, List.append_toArray, List.nil_append, List.cons_append]
  refine wpIn_wide.2 ?_
  go_wp2_with (first
    | (refine st_new rfl (rn_alloc H rfl info_bb) ?_; clear H; intro b3 w1 hb3 H)
    | (go_at_call 18; refine (clone_any _ _ bs (O.out.mv H (by simpa using hb3)) (by have := hn'.out; omega)).mono ?_; rintro e w2 ⟨r, rfl, hbin, h2, hnw⟩; have hb3lt := H.lt (.head _); have H2 := H.call0 h2; clear H h2; have H := H2; clear H2; obtain ⟨⟨pr, cr, rfl⟩, hby, hlt⟩ := hbin; rw [← hn'.out]; rw [← hn'.out] at hby hlt hnw)
    | (go_at_call 17; refine (chunkf_any _ _ _ _).mono ?_; rintro e w3 ⟨B1, B2, rfl, hB1, hB2, h3⟩))
  have HL : Own w2 w3 [(b3, [.slice none 0 0], 24), (B1, [.slice pr n cr], 25), (B2, [.int .i64 256], 3)] :=
    (Own.call (L1 := []) (L := [(b3, [.slice none 0 0], 24)]) (H.sub1 (.head _)) (Upd.of_own h3 (by simp; omega)) (by simp)).perm (perm3 _ _ _)
  have hB1lt := HL.lt (.tail _ (.head _))
  have hB2lt := HL.lt (.tail _ (.tail _ (.head _)))
  have g1 := HL.here B1 [.slice pr n cr] 25 (.tail _ (.head _))
  have g2 := HL.here B2 [.int .i64 256] 3 (.tail _ (.tail _ (.head _)))
  have hO2 : Old w2 (.slice pr n cr) bs := ⟨hby, hlt⟩
  clear hby hlt h3
  obtain ⟨b, off, hpr, hseq, hpc⟩ : ∃ b off, (pr = some ⟨b, off, none⟩ ∨ n = 0) ∧
      SeqStopsK Fence.wide 4 Try.prog 26 #[.pointer (some ⟨B1, 0, none⟩), .pointer (some ⟨B2, 0, none⟩)] (fun x : Ix n => #[pieceVal b off n x.1]) (KpB B1 B2) (fun xs => xs.map (·.1) = List.range (np n)) (fun _ => True) (np n) w3 ∧
      (∀ i, 256 * i < n → Old w2 (pieceVal b off n i) (pc bs i) ∧ (∃ p c, pieceVal b off n i = .slice p (pc bs i).length c) ∧ w1.heap.size ≤ b ∧ b < w2.heap.size) := by
    by_cases hn0 : n = 0
    · subst hn0
      refine ⟨0, 0, Or.inr rfl, fun l J Jx W hW hJ hJx hY h0 => ?_, fun i hi => by omega⟩
      refine (chunk0_in l B1 B2 cr pr J W ((hW.block B1 hB1lt).trans g1) h0).mono fun e W' ⟨h1, h2⟩ => ⟨h1, Or.inl ⟨[], rfl, h2⟩⟩
    · have hcell := hO2.1.cell
      rcases hcell with ⟨_, hb⟩ | ⟨b, off, cap, hv, hcap, _⟩
      · rw [hb] at hn'
        exact absurd hn'.out hn0
      · simp only [Value.slice.injEq] at hv
        obtain ⟨hp, _, hcc⟩ := hv
        subst hp
        have hnc : n ≤ cr := by have := hn'.out; omega
        clear hcap hcc
        have hblk : blk (.slice (some ⟨b, off, none⟩) n cr) = some b := by simp only [blk]; rw [if_neg (by omega)]
        refine ⟨b, off, Or.inl rfl, fun l J Jx W hW hJ hJx hY h0 => ?_, fun i hi => ?_⟩
        · exact chunk1_in l B1 B2 b off n cr hl hnc J Jx hY W hJ ((hW.block B1 hB1lt).trans g1) ((hW.block B2 hB2lt).trans g2) h0
        · obtain ⟨q1, q2⟩ := piece_old hO2 hn'.out hi
          exact ⟨q1, q2, hnw b hblk, hO2.2 b hblk⟩
  have I0 : Inv w2 b3 B1 B2 b off n (.slice pr n cr) [] w3 := ⟨none, 0, BufV.nil HL⟩
  have hsz := HL.size
  clear HL g1 g2
  refine (wpIn_wide (n := 5)).1 (wpIn_rangeFunc_ownF (F := Fence.wide) (n := 5) rfl (by omega) (gf := 26) (lb := #[.pointer (some ⟨B1, 0, none⟩), .pointer (some ⟨B2, 0, none⟩)]) rfl trivial (enters_of Try.func26 (by kernel_rfl) rfl)
    hseq (fun h k => ⟨k.1.trans h.1, k.2.trans h.2⟩) (fun W l o o' hl _ _ _ => KpB.putObj hB1lt hB2lt W l o' hl) (Below.refl _ _) (fun _ => rfl) (fun pre W => Inv w2 b3 B1 B2 b off n (.slice pr n cr) pre W) (fun _ _ _ => False) (Inv.from hsz) (fun _ _ _ _ _ h _ _ => h.elim) I0
    (fun x => { tmps := #[.slice p0 n c0, undef, .slice none 0 0, .pointer (some ⟨b3, 0, none⟩), pieceVal b off n x.1, .slice p0 n c0, .slice pr n cr, .func (.func 26) #[] #[.pointer (some ⟨B1, 0, none⟩), .pointer (some ⟨B2, 0, none⟩)], pieceVal b off n x.1, undef, undef, undef, undef, undef, undef, undef, undef, undef, undef], defers := [] }) ?assign ?body ?done ?stop)
  case assign =>
    intro l x W K hK
    have hsem := Oper.semAt_some l
    gi_wp2
    exact hK
  case stop =>
    rintro D c pre W _ _ h _
    exact h.elim
  case body =>
    rintro l pre x W hI hlen
    have hI0 := hI
    obtain ⟨p, c, B⟩ := hI
    obtain ⟨xi, hxi⟩ := x
    have hpl : pre.length ≤ 4000 := by unfold np at hlen; omega
    obtain ⟨m, hm⟩ : ∃ m, m = min 256 (n - 256 * xi) := ⟨_, rfl⟩
    have hpv : pieceVal b off n xi = .slice (some ⟨b, off + 256 * xi, none⟩) m m := by unfold pieceVal; rw [hm]
    dsimp only
    rw [hpv]
    have hpv' := Lib.hid hpv
    clear hm hpv hseq hpc I0 hlen hO2 hnw
    refine wpIn_block (region_app_in 8 (by kernel_rfl) (by kernel_rfl) (fun ⟨_, _, h⟩ => h) (by kernel_rfl) (by kernel_rfl) [.val (.slice p pre.length c), .val (.slice (some ⟨b, off + 256 * xi, none⟩) m m), .val (.slice (some ⟨b, off + 256 * xi, none⟩) m m), .val (.int .i64 m), .val (.slice (some ⟨b, off + 256 * xi, none⟩) m m), .val (.int .i64 m), .val (.slice (some ⟨b, off + 256 * xi, none⟩) m m), .rel (OneS (.slice (some ⟨b, off + 256 * xi, none⟩) m m))] rfl trivial ?_)
    try go_frame
    repeat (first
      | (refine sq_run (v := .slice p pre.length c) rfl (fun w' hw' _ => rn_load (B.call0 hw').own0 rfl rfl (.head _) rfl rfl rfl) ?_; go_frame)
      | (refine sq_run (v := .slice (some ⟨b, off + 256 * xi, none⟩) m m) rfl (fun w' _ _ => rn_whole rfl Try.underlying25 size_u8 rfl rfl rfl) ?_; go_frame)
      | (refine sq_rel (fun w1 w2 v h ⟨h1, h2⟩ => ⟨h1, h2.own0 h⟩) rfl (fun w' hw' _ => lit_oneS (e := 25) rfl (fun w' => by kernel_rfl)) ?_; intro v16; go_frame)
      | (refine sq_val (fun w' hw' hF => ?_) ⟨_, rfl, Nat.le_of_ble_eq_true rfl⟩ ?_
         · go_big_quiet_step (fail)
           exact rfl
         try go_frame))
    refine sq_nil ?_
    intro w' hw' hF
    obtain ⟨⟨p16, c16, rfl⟩, h16⟩ := hF.2 _ rfl trivial
    have B' := B.call0 hw'
    have hk0 := keeps_of_own hw' (by simp)
    have h16' := Lib.hid h16
    clear B hw' hF h16
    simp only [List.drop_succ_cons, List.drop_zero]
    go_wp2_with (first
      | (refine st_appVK (m := 1) (ds := [.slice (some ⟨b, off + 256 * xi, none⟩) m m]) rfl B' elem_sl rfl rfl rfl rfl h16'.out rfl (by simp; rfl) (by omega) (by omega) ?_; clear B'; intro p6 c6 w6 B6 hk6)
      | (refine st_bufSetVK rfl B6 rfl rfl rfl (by kernel_rfl) (by simp) rfl ?_; clear B6; intro w7 B7 hk7))
    have hI' : Inv w2 b3 B1 B2 b off n (.slice pr n cr) (pre ++ [⟨xi, hxi⟩]) w7 := ⟨p6, c6, by
      rw [List.length_append, List.map_append]
      show BufV _ _ _ _ _ _ (pre.length + 1) (_ ++ [pieceVal b off n xi])
      rw [hpv'.out]
      exact B7⟩
    exact ⟨hk0.trans (hk6.trans hk7), Inv.kp hI0 hI', hI'⟩
  case done =>
    rintro D xs W hD hS hI hK
    obtain ⟨p, c, B⟩ := hI
    have B' := B.grown (B := w3.heap.size) (grownBy_putObj' W D (.deferred none)) (fun r e => by cases e; exact ⟨hD, _, hK, rfl⟩) hsz
    have hfin : Hid (∃ r ls, Ending.returned (.slice p xs.length c) = .returned r ∧ OldL (W.putObj D (.deferred none)) r ls ∧ ls.map (·.2) = pcs bs (np n) ∧ Own w (W.putObj D (.deferred none)) []) := by
      refine ⟨_, xs.map fun x => (pieceVal b off n x.1, pc bs x.1), rfl, ⟨?_, B'.lt, fun i x hx => ?_⟩, ?_, ?_⟩
      · rw [List.length_map, List.map_map]
        exact B'.slAt
      · rw [List.getElem?_map] at hx
        cases hy : xs[i]? with
        | none => simp [hy] at hx
        | some y =>
          simp only [hy, Option.map_some, Option.some.injEq] at hx
          subst hx
          obtain ⟨q1, q2, q3, q4⟩ := hpc y.1 y.2
          have hne : ∀ j, blk (pieceVal b off n y.1) = some j → j = b := fun j hj => ((blk_some hj).1).symm
          have hszW := B'.own0.size
          refine ⟨⟨SlAt.own q1.1 B'.own0 (fun j hj hm => ?_), fun j hj => Nat.lt_of_lt_of_le (q1.2 j hj) hszW⟩, q2, range_sub hr'.out _ _⟩
          have := hne j hj
          simp at hm
          omega
      · rw [List.map_map]
        show xs.map (fun x => pc bs x.1) = (List.range (np n)).map (pc bs)
        rw [← hS, List.map_map]
        rfl
      · have h1 := Own.call (L1 := [(b3, [.slice none 0 0], 24)]) (L := []) (by simpa using H) ⟨B'.own0, fun k hk => by simp at hk ⊢; omega⟩ (by simp)
        have hw2 := H.size
        exact h1.end0 (by simp; omega)
    clear B' hpc hseq I0 hO2
    go_wp2_with (refine st_val rfl (rn_load B.own0 rfl rfl (.head _) rfl rfl rfl) ?_)
    refine ⟨by simp, .inl ⟨_, _, rfl, run_takeDeferred hK, ?_⟩⟩
    exact ⟨_, results_tmp (t := 2) rfl _ _ _, hfin.out⟩

end Go.Proofs.Ytjcnhpnadfhjaaa
