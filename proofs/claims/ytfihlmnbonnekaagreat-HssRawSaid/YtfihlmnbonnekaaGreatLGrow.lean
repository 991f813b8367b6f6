/- lms: a tree is made, once. -/
import Derived.Test.YtfihlmnbonnekaaGreatLNode
import Derived.Test.YtfihlmnbonnekaaGreatLRdr
import Derived.Test.YtfihlmnbonnekaaGreatOnce
import Derived.Test.YtfihlmnbonnekaaGreatEffA
namespace Go.Proofs.YtfihlmnbonnekaaGreat
open Go.RowKit

section
variable {P : Program} {o : Oper} {a : Act} {w : World}
end

theorem leaf_node (id : List Int) (r : Nat) (x : List Int) : sha (hashIn id r 33410 [x]) = leafOf id r x := by
  unfold hashIn leafOf
  rw [show numB ((33410 : Nat) : Int) 2 = [130, 130] by kernel_rfl, List.append_assoc]
  simp
theorem inner_node (id : List Int) (r : Nat) (x y : List Int) : sha (hashIn id r 33667 [x, y]) = innerOf id r x y := by
  unfold hashIn innerOf
  rw [show numB ((33667 : Nat) : Int) 2 = [131, 131] by kernel_rfl, List.append_assoc]
  simp

/-- a new row is written once, in a region that draws its order: what is known ahead and behind -/
def StS (wr : World) (d0 : Nat) (vs : List Value) (T : TypeId) : Nat → Act → World → Prop
  | 0, _, w' => Own wr w' []
  | 1, a', w' => Own wr w' [] ∧ ∃ g, a'.tmps.getD d0 undef = .pointer (some ⟨g, 0, none⟩) ∧ wr.heap.size ≤ g ∧ w'.heap[g]? = some (.cells vs.toArray T (0, 0))
  | _, _, _ => False
theorem StS.own {wr : World} {d0 : Nat} {vs : List Value} {T : TypeId} {w' : World} : ∀ (s : Nat) {a' : Act}, StS wr d0 vs T s a' w' → Own wr w' []
  | 0, _, h => h
  | 1, _, h => h.1
theorem StS.m {wr : World} {d0 : Nat} {vs : List Value} {T : TypeId} : ∀ s a' w1 w2, StS wr d0 vs T s a' w1 → Own w1 w2 [] → StS wr d0 vs T s a' w2
  | 0, _, _, _, h, h2 => h.trans h2
  | 1, _, _, _, ⟨h, g, h1, h3, h4⟩, h2 => ⟨h.trans h2, g, h1, h3, by rw [h2.keep g (Array.getElem?_eq_some_iff.1 h4).1 (by simp)]; exact h4⟩
theorem StS.p {wr : World} {d0 : Nat} {vs : List Value} {T : TypeId} : ∀ s (a' : Act) w' d v, (d ∉ [d0] ∨ s ≤ 0) → StS wr d0 vs T s a' w' → StS wr d0 vs T s (a'.put (some d) v) w'
  | 0, _, _, _, _, _, h => h
  | 1, a', _, d, v, hd, ⟨h, g, h1, h3, h4⟩ => by
    refine ⟨h, g, ?_, h3, h4⟩
    have hne : d ≠ d0 := by
      rcases hd with hd | hd
      · simpa using hd
      · omega
    rw [← h1]
    show (a'.tmps.setIfInBounds d v).getD d0 undef = _
    simp [hne]
def CellN (B n : Nat) (T : TypeId) : World → Value → Prop := fun w v => ∃ g cs, v = .pointer (some ⟨g, 0, none⟩) ∧ B ≤ g ∧ cs.length = n ∧ w.heap[g]? = some (.cells (List.toArray cs) T (0, 0))
theorem CellN.mono {B n : Nat} {T : TypeId} : Mono (CellN B n T) := fun w1 w2 v h ⟨g, c, h1, h2, h3, h4⟩ => ⟨g, c, h1, h2, h3, by rw [h.keep g (Array.getElem?_eq_some_iff.1 h4).1 (by simp)]; exact h4⟩
def SeT (n : Nat) (T : TypeId) : World → World → Prop := fun w1 w2 => ∃ g cs cs', w1.heap[g]? = some (.cells (List.toArray cs) T (0, 0)) ∧ Own w1 w2 [(g, cs', T)] ∧ List.length cs' = n
theorem CellN.presS {B n : Nat} {T : TypeId} : ∀ w1 w2 v, SeT n T w1 w2 → CellN B n T w1 v → CellN B n T w2 v := fun w1 w2 v ⟨g, cs, cs', h1, h2, h3⟩ ⟨b, c, e1, e2, e3, e4⟩ => by
  by_cases e : b = g
  · subst e
    rw [h1] at e4
    exact ⟨b, cs', e1, e2, h3, h2.here _ _ _ (.head _)⟩
  · exact ⟨b, c, e1, e2, e3, by rw [h2.keep b (Array.getElem?_eq_some_iff.1 e4).1 (by simpa using e)]; exact e4⟩
theorem cellN_alloc {P : Program} {o : Oper} {a : Act} {w w1 : World} {ty : TypeId} {cs : List Value} {n : Nat} (ho : o.op = .alloc ty) (hz : ((P.info? ty).bind (·.zero)).map (fun z => z.cells.toList) = some cs) (hn : cs.length = n) (hw : w.heap.size ≤ w1.heap.size) :
    YieldsTo P o a w1 (fun v w' => Own w1 w' [] ∧ CellN w.heap.size n ty w' v) := by
  obtain ⟨g, w2, hr, hg, ho1⟩ := rn_alloc (P := P) (o := o) (a := a) (Own.refl w1) ho hz
  exact yieldsTo_val' hr ⟨ho1.end0 (by simpa using hg), g, cs, rfl, Nat.le_trans hw hg, hn, ho1.here _ _ _ (.head _)⟩

/-- a piece of a row that a call owns, read as a slice -/
theorem Own.binAt {w0 w : World} {L : List Ent} (H : Own w0 w L) {b o : Nat} {cs : List Value} {T : TypeId} {x : List Int} {n m : Nat} (hm : (b, cs, T) ∈ L) (hx : ∀ j v, (u8s x)[j]? = some v → cs[o + j]? = some v) (hn : n = x.length) (hnm : n ≤ m) : BIn x w (.slice (some ⟨b, o, none⟩) n m) := by
  refine ⟨⟨_, _, by rw [hn]⟩, Or.inr ⟨b, o, m, by rw [hn], ⟨by omega, fun h => List.eq_nil_of_length_eq_zero (by rw [length_ints]; omega)⟩, fun i v hv => by rw [H.cell hm]; exact hx i v hv⟩, fun k hk => ?_⟩
  obtain ⟨h1, _⟩ := blk_some hk
  rw [← h1]
  exact H.lt hm

theorem tbl_at {N : Nat → List Int} (hN : ∀ r, (N r).length = 32) {j i : Nat} (h : j < i) (h64 : i < 64) {q : Nat} {v : Value} (hq : (u8s (N i))[q]? = some v) : (u8s (tblOf N j))[32 * i + q]? = some v := by
  have hl : q < 32 := by rw [← hN i, ← length_ints .u8]; exact (List.getElem?_eq_some_iff.1 hq).1
  rw [← tblOf_get hN h h64, show ∀ (l : List Int) n, u8s ((l.drop n).take 32) = ((u8s l).drop n).take 32 by intro l n; simp [ints, List.map_take, List.map_drop], List.getElem?_take_of_lt hl, List.getElem?_drop] at hq
  exact hq

/-- what a tree's cells are once it is made -/
def fullT (id seed : List Int) (k : Nat) : List Value := treeG (id ++ seed) k 1 0 (tblOf (nodeOf id seed k) 0) 63
theorem Own.same {w w' : World} {b : Nat} {cs : List Value} {T : TypeId} (h : Own w w' [(b, cs, T)]) (hb : w.heap[b]? = some (.cells cs.toArray T (0, 0))) : Own w w' [] := by
  refine ⟨h.os, h.tape, h.output, h.size, fun k hk _ => ?_, List.nodup_nil, fun _ _ _ hm => by cases hm⟩
  by_cases e : k = b
  · subst e
    rw [hb]
    exact h.here _ _ _ (.head _)
  · exact h.keep k hk (by simpa using e)

end Go.Proofs.YtfihlmnbonnekaaGreat
