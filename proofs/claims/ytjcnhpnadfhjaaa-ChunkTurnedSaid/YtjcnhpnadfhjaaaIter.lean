/- slices.Chunk's closure: what it hands to the loop's body. -/
import Derived.Test.YtjcnhpnadfhjaaaClone
import Derived.Test.YtjcnhpnadfhjaaaRegIn
import Derived.Shelf.Abstract
import Derived.Shelf.RegionOpen
import Derived.OwnWalkIn
import Derived.TacticsInMore
import Derived.LoopNIn
import Derived.LoopIn
namespace Go.Proofs.Ytjcnhpnadfhjaaa
open Go.RowKit

/-- a piece of a row of bytes, as the closure hands it out -/
def pieceVal (b off n i : Nat) : Value := .slice (some ⟨b, off + 256 * i, none⟩) (min 256 (n - 256 * i)) (min 256 (n - 256 * i))

/-- the closure's two boxes lie as they lay -/
def KpB (B1 B2 : Nat) (W W' : World) : Prop := W'.heap[B1]? = W.heap[B1]? ∧ W'.heap[B2]? = W.heap[B2]?

theorem run_slice3 {P : Program} {t e : TypeId} (hu : P.underlying t = some (.slice e)) (hs : (P.info? e).map (·.size) = some 1) {b off n c l h : Nat} {z1 z2 z3 : Int} (h1 : z1 = l) (h2 : z2 = h) (h3 : z3 = h) (hlh : l < h) (hn : h ≤ n) (hc : n ≤ c) (w : World) :
    (Instr.sliceAt t (.slice (some ⟨b, off, none⟩) n c) (some (.int .i64 z1)) (some (.int .i64 z2)) (some (.int .i64 z3))).run P w = .ok (.slice (some ⟨b, off + l, none⟩) (h - l) (h - l)) w := by
  subst h1 h2 h3
  have e1 : h ≤ c := by omega
  have e2 : l ≤ h := by omega
  have e3 : ¬ (h = l) := by omega
  simp [Instr.sliceAt, Instr.slice, Instr.sliceBounds, Instr.sliceBound, asIntOf, Sem.run_bind, run_underlying hu, run_sizeOf hs, e1, e2, e3, add_plain]

theorem rn_from {P : Program} {o : Oper} {a : Act} {w : World} {t : TypeId} {x lo : Operand} (ho : o.op = .slice t x (some lo) none none) {e : TypeId} (hu : P.underlying t = some (.slice e)) (hs : (P.info? e).map (·.size) = some 1) {b off n c k q : Nat} (hx : a.eval x = .slice (some ⟨b, off, none⟩) n c)
    {z : Int} (hj : a.eval lo = .int .i64 z) (hz : z = 256 * (k : Int)) (hk : 256 * k < n) (hc : n ≤ c) (hq : q = n - 256 * k) :
    (execOp a.eval o).run P w = .ok (.value (.slice (some ⟨b, off + 256 * k, none⟩) q (c - 256 * k))) w := by
  have := rn_sliceLo (w := w) ho hu hs hx hj (by omega) (by omega)
  rw [show z.toNat = 256 * k by omega, if_neg (by omega), Nat.mul_one] at this
  rw [hq]
  exact this

abbrev Ix (n : Nat) := { i : Nat // 256 * i < n }

set_option maxRecDepth 100000 in
set_option maxHeartbeats 2000000 in
theorem chunk1_in (l B1 B2 b off n c0 : Nat) (hn : n ≤ 1000000) (hc : n ≤ c0) (J Jx : List (Ix n) → World → Prop)
    (hY : ∀ pre (x : Ix n) W, J pre W → pre.length < np n → YieldAt Fence.wide 3 Try.prog l #[pieceVal b off n x.1] W fun e W' => (e = .returned (.bool true) ∧ J (pre ++ [x]) W' ∧ KpB B1 B2 W W') ∨ (e = .returned (.bool false) ∧ Jx (pre ++ [x]) W'))
    (W : World) (hJa : AbidesFrom W.heap.size J) (h1 : W.heap[B1]? = some (.cells #[.slice (some ⟨b, off, none⟩) n c0] 25 (0, 0))) (h2 : W.heap[B2]? = some (.cells #[.int .i64 256] 3 (0, 0))) (h0 : J [] W) :
    CallsIn Fence.wide 4 Try.prog 26 #[.func (.yield l) #[] #[], .pointer (some ⟨B1, 0, none⟩), .pointer (some ⟨B2, 0, none⟩)] W fun e W' => (∃ v, e = .returned v) ∧ ((∃ xs : List (Ix n), xs.map (·.1) = List.range (np n) ∧ J xs W') ∨ (∃ pre : List (Ix n), True ∧ Jx pre W')) := by
  have hY' := Lib.hid hY
  have hJa' := Lib.hid hJa
  clear hY hJa
  refine callsIn_of_wp Try.func26 rfl trivial ?_ rfl
  simp only [Try.ntmps26, List.size_toArray, List.length_cons, List.length_nil, Nat.reduceAdd, Nat.reduceSub, Array.replicate_succ, Array.replicate_zero, List.push_toArray, List.append_toArray, List.nil_append, List.cons_append]
  gi_wp2
  gi_loopw [4, 5] (fun v4 _ wr => ∃ (k : Nat) (xs : List (Ix n)), 256 * k ≤ n + 255 ∧ v4 = .int .i64 (256 * (k : Int)) ∧ xs.map (·.1) = List.range k ∧ J xs wr ∧ wr.heap[B1]? = some (.cells #[.slice (some ⟨b, off, none⟩) n c0] 25 (0, 0)) ∧ wr.heap[B2]? = some (.cells #[.int .i64 256] 3 (0, 0)))
    (fun v4 _ _ => ((n : Int) + 300 - intOf v4).toNat)
  case atStart => exact ⟨0, [], by omega, rfl, rfl, h0, h1, h2⟩
  case round =>
    clear h0 h1 h2
    obtain ⟨k, xs, hk, rfl, hxs, hJ, h1, h2⟩ := hrel
    have hc1 : wr.cell? ⟨B1, 0, none⟩ = some (.slice (some ⟨b, off, none⟩) n c0) := by rw [cell_of_row wr B1 0 _ _ _ h1]; rfl
    have hc2 : wr.cell? ⟨B2, 0, none⟩ = some (.int .i64 256) := by rw [cell_of_row wr B2 0 _ _ _ h2]; rfl
    by_cases hkn : 256 * k < n
    · obtain ⟨q, hq0⟩ : ∃ q, q = n - 256 * k := ⟨_, rfl⟩
      have hq := Lib.hid hq0
      have hq1 : 0 < q := by omega
      have hq2 : q ≤ 1000000 := by omega
      have hkb : k ≤ 4000 := by omega
      clear hq0
      have hxl : Hid (xs.length = k) := by show _ = _; simpa using congrArg List.length hxs
      have hd1 : Hid (∀ w', Own wr w' [] → w'.cell? ⟨B1, 0, none⟩ = some (.slice (some ⟨b, off, none⟩) n c0)) := fun w' h => h.old hc1 (by simp)
      have hd2 : Hid (∀ w', Own wr w' [] → w'.cell? ⟨B2, 0, none⟩ = some (.int .i64 256)) := fun w' h => h.old hc2 (by simp)
      have hd3 : Hid (∀ w', Own wr w' [] → w'.heap[B1]? = some (.cells #[.slice (some ⟨b, off, none⟩) n c0] 25 (0, 0))) := fun w' h => (h.keep B1 (Array.getElem?_eq_some_iff.1 h1).1 (by simp)).trans h1
      have hd4 : Hid (∀ w', Own wr w' [] → w'.heap[B2]? = some (.cells #[.int .i64 256] 3 (0, 0))) := fun w' h => (h.keep B2 (Array.getElem?_eq_some_iff.1 h2).1 (by simp)).trans h2
      have hdJ : Hid (∀ w', Own wr w' [] → J xs w') := fun w' h => hJa'.out _ _ _ none hJ ⟨h.os, h.tape, h.output, h.size, fun k hk _ => h.keep k hk (by simp)⟩ (by simp)
      clear h1 h2 hc2 hJ
      by_cases hful : 256 ≤ q
      · have hfi : (256 : Int) ≤ (q : Int) := by omega
        gi_wp2
        refine wpIn_wide.2 (region_grow 6 (by kernel_rfl) (by kernel_rfl) (by kernel_rfl) [.val (.int .i64 256), .val (.slice (some ⟨b, off, none⟩) n c0), .val (.int .i64 (256 * (k : Int))), .val (.slice (some ⟨b, off + 256 * k, none⟩) q (c0 - 256 * k)), .val (.int .i64 q), .val (.int .i64 256)] rfl ?_)
        repeat (first
          | (refine sp_run (v := .int .i64 256) rfl (fun w' hw' _ => rn_cell rfl rfl rfl rfl (hd2.out w' hw')) ?_; go_frame)
          | (refine sp_run (v := .slice (some ⟨b, off, none⟩) n c0) rfl (fun w' hw' _ => rn_cell rfl rfl rfl rfl (hd1.out w' hw')) ?_; go_frame)
          | (refine sp_run (v := .slice (some ⟨b, off + 256 * k, none⟩) q (c0 - 256 * k)) rfl (fun w' hw' _ => rn_from rfl Try.underlying25 size_u8 rfl rfl rfl hkn hc hq.out) ?_; go_frame)
          | (refine sp_val (fun w' hw' hF => ?_) ⟨_, rfl, Nat.le_of_ble_eq_true rfl⟩ ?_
             · go_big_quiet_step (fail)
               exact rfl
             try go_frame))
        refine sp_nil ?_
        intro w' hw' hF
        have hg1 := hd3.out w' hw'
        have hg2 := hd4.out w' hw'
        have hJ' : J xs w' := hdJ.out w' hw'
        clear hw' hF hd1 hd2 hd3 hd4 hdJ
        simp only [List.drop_succ_cons, List.drop_zero]
        have hc1' : w'.cell? ⟨B1, 0, none⟩ = some (.slice (some ⟨b, off, none⟩) n c0) := by rw [cell_of_row w' B1 0 _ _ _ hg1]; rfl
        have hsl : ∀ w : World, (Instr.sliceAt 25 (.slice (some ⟨b, off, none⟩) n c0) (some (.int .i64 (256 * (k : Int)))) (some (.int .i64 (256 * (k : Int) + 256))) (some (.int .i64 (256 * (k : Int) + 256)))).run Try.prog w = .ok (.slice (some ⟨b, off + 256 * k, none⟩) 256 256) w := fun w => by
          have := run_slice3 (P := Try.prog) Try.underlying25 size_u8 (b := b) (off := off) (n := n) (c := c0) (l := 256 * k) (h := 256 * k + 256) (z1 := 256 * (k : Int)) (z2 := 256 * (k : Int) + 256) (z3 := 256 * (k : Int) + 256) (by omega) (by omega) (by omega) (by have := hq.out; omega) (by have := hq.out; omega) hc w
          rwa [show 256 * k + 256 - 256 * k = 256 by omega] at this
        obtain ⟨fn, tmps, assign, body, hy, hR⟩ := hY'.out xs ⟨k, hkn⟩ w' hJ' (by rw [hxl.out]; unfold np; omega)
        rw [show pieceVal b off n k = .slice (some ⟨b, off + 256 * k, none⟩) 256 256 by unfold pieceVal; rw [show min 256 (n - 256 * k) = 256 by have := hq.out; omega]] at hy
        go_wp2_with fail
        gi_wp2
        refine hR.mono ?_
        rintro e W3 (⟨rfl, hJ3, hk3⟩ | ⟨rfl, hJx3⟩)
        · have g1 := hk3.1.trans hg1
          have g2 := hk3.2.trans hg2
          have hc3 : W3.cell? ⟨B2, 0, none⟩ = some (.int .i64 256) := by rw [cell_of_row W3 B2 0 _ _ _ g2]; rfl
          gi_wp2
          go_roundw
          case rel => exact ⟨k + 1, xs ++ [⟨k, hkn⟩], by omega, by go_num, by rw [List.map_append, hxs, List.range_succ]; rfl, hJ3, g1, g2⟩
          case measure => simp [intOf]; omega
        · gi_wp2
          refine bodyPost_ret (results_none rfl _ _ _) rfl ?_
          exact ⟨⟨_, rfl⟩, .inr ⟨_, trivial, hJx3⟩⟩
      · have hfi : (q : Int) < 256 := by omega
        gi_wp2
        refine wpIn_wide.2 (region_grow 6 (by kernel_rfl) (by kernel_rfl) (by kernel_rfl) [.val (.int .i64 256), .val (.slice (some ⟨b, off, none⟩) n c0), .val (.int .i64 (256 * (k : Int))), .val (.slice (some ⟨b, off + 256 * k, none⟩) q (c0 - 256 * k)), .val (.int .i64 q), .val (.int .i64 q)] rfl ?_)
        repeat (first
          | (refine sp_run (v := .int .i64 256) rfl (fun w' hw' _ => rn_cell rfl rfl rfl rfl (hd2.out w' hw')) ?_; go_frame)
          | (refine sp_run (v := .slice (some ⟨b, off, none⟩) n c0) rfl (fun w' hw' _ => rn_cell rfl rfl rfl rfl (hd1.out w' hw')) ?_; go_frame)
          | (refine sp_run (v := .slice (some ⟨b, off + 256 * k, none⟩) q (c0 - 256 * k)) rfl (fun w' hw' _ => rn_from rfl Try.underlying25 size_u8 rfl rfl rfl hkn hc hq.out) ?_; go_frame)
          | (refine sp_val (fun w' hw' hF => ?_) ⟨_, rfl, Nat.le_of_ble_eq_true rfl⟩ ?_
             · go_big_quiet_step (fail)
               exact rfl
             try go_frame))
        refine sp_nil ?_
        intro w' hw' hF
        have hg1 := hd3.out w' hw'
        have hg2 := hd4.out w' hw'
        have hJ' : J xs w' := hdJ.out w' hw'
        clear hw' hF hd1 hd2 hd3 hd4 hdJ
        simp only [List.drop_succ_cons, List.drop_zero]
        have hc1' : w'.cell? ⟨B1, 0, none⟩ = some (.slice (some ⟨b, off, none⟩) n c0) := by rw [cell_of_row w' B1 0 _ _ _ hg1]; rfl
        have hsl : ∀ w : World, (Instr.sliceAt 25 (.slice (some ⟨b, off, none⟩) n c0) (some (.int .i64 (256 * (k : Int)))) (some (.int .i64 (256 * (k : Int) + q))) (some (.int .i64 (256 * (k : Int) + q)))).run Try.prog w = .ok (.slice (some ⟨b, off + 256 * k, none⟩) q q) w := fun w => by
          have := run_slice3 (P := Try.prog) Try.underlying25 size_u8 (b := b) (off := off) (n := n) (c := c0) (l := 256 * k) (h := 256 * k + q) (z1 := 256 * (k : Int)) (z2 := 256 * (k : Int) + q) (z3 := 256 * (k : Int) + q) (by omega) (by omega) (by omega) (by have := hq.out; omega) (by have := hq.out; omega) hc w
          rwa [show 256 * k + q - 256 * k = q by omega] at this
        obtain ⟨fn, tmps, assign, body, hy, hR⟩ := hY'.out xs ⟨k, hkn⟩ w' hJ' (by rw [hxl.out]; unfold np; omega)
        rw [show pieceVal b off n k = .slice (some ⟨b, off + 256 * k, none⟩) q q by unfold pieceVal; rw [show min 256 (n - 256 * k) = q by have := hq.out; omega]] at hy
        go_wp2_with fail
        gi_wp2
        refine hR.mono ?_
        rintro e W3 (⟨rfl, hJ3, hk3⟩ | ⟨rfl, hJx3⟩)
        · have g1 := hk3.1.trans hg1
          have g2 := hk3.2.trans hg2
          have hc3 : W3.cell? ⟨B2, 0, none⟩ = some (.int .i64 256) := by rw [cell_of_row W3 B2 0 _ _ _ g2]; rfl
          gi_wp2
          go_roundw
          case rel => exact ⟨k + 1, xs ++ [⟨k, hkn⟩], by omega, by go_num, by rw [List.map_append, hxs, List.range_succ]; rfl, hJ3, g1, g2⟩
          case measure => simp [intOf]; omega
        · gi_wp2
          refine bodyPost_ret (results_none rfl _ _ _) rfl ?_
          exact ⟨⟨_, rfl⟩, .inr ⟨_, trivial, hJx3⟩⟩
    · have hfin : k = np n := by unfold np; omega
      gi_wp2
      go_end0
      exact ⟨⟨_, rfl⟩, .inl ⟨xs, by rw [hxs, hfin], hJ⟩⟩
end Go.Proofs.Ytjcnhpnadfhjaaa
