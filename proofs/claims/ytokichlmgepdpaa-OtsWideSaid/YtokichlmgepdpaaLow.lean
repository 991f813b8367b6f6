/- A layer over the kit's walk: a list of blocks that a piece of code owns, what each holds, and that nothing else has turned. And what stands on it. No condition. -/
import Derived.WalkKit
import Derived.WalkSpells
import Derived.WalkLawsBesides
import Derived.BigQuiet
import Derived.Laws.CopyOwn
import Derived.Orders
import Derived.Deep.Quiet
import Derived.Laws.Append
import Derived.Laws.AppendOwn
import Derived.Conc.Own4
import Derived.Laws.IdiomStrings
import Derived.Laws.MakeOwn
import Derived.Lib.AppendStr
import Derived.ChangeSlices
import Derived.ChangeShapes
import Derived.WideShapes

/-! A layer over the kit's walk: a list of blocks that a piece of code owns, what each holds, and that nothing else has turned. No dump, no condition. -/
namespace Go.Proofs.Ytokichlmgepdpaa
open Go.RowKit

/-- A block: its number, what it holds, its elements' type. -/
abbrev Ent := Nat × List Value × TypeId

structure Own (w0 w : World) (L : List Ent) : Prop where
  os : w.os = w0.os
  tape : w.tape = w0.tape
  output : w.output = w0.output
  size : w0.heap.size ≤ w.heap.size
  keep : ∀ k, k < w0.heap.size → k ∉ L.map (·.1) → w.heap[k]? = w0.heap[k]?
  nodup : (L.map (·.1)).Nodup
  here : ∀ b cs T, (b, cs, T) ∈ L → w.heap[b]? = some (.cells cs.toArray T (0, 0))

theorem Own.refl (w : World) : Own w w [] := ⟨rfl, rfl, rfl, Nat.le_refl _, fun _ _ _ => rfl, List.nodup_nil, fun _ _ _ h => by cases h⟩

theorem Own.one {w : World} {b : Nat} {cs : List Value} {T : TypeId} (h : w.heap[b]? = some (.cells cs.toArray T (0, 0))) : Own w w [(b, cs, T)] :=
  ⟨rfl, rfl, rfl, Nat.le_refl _, fun _ _ _ => rfl, by simp, fun b' cs' T' h' => by
    simp at h'; obtain ⟨rfl, rfl, rfl⟩ := h'; exact h⟩

theorem Own.drew {w0 w : World} {L : List Ent} (h : Own w0 w L) : Own w0 w.drew L := ⟨h.os, h.tape, h.output, h.size, h.keep, h.nodup, h.here⟩
theorem Own.drewN {w0 w : World} {L : List Ent} (h : Own w0 w L) (n : Nat) : Own w0 (w.drewN n) L := ⟨h.os, h.tape, h.output, h.size, h.keep, h.nodup, h.here⟩

theorem Own.lt {w0 w : World} {L : List Ent} (h : Own w0 w L) {b : Nat} {cs : List Value} {T : TypeId} (hm : (b, cs, T) ∈ L) : b < w.heap.size :=
  (Array.getElem?_eq_some_iff.1 (h.here b cs T hm)).1

theorem Own.cell {w0 w : World} {L : List Ent} (h : Own w0 w L) {b : Nat} {cs : List Value} {T : TypeId} (hm : (b, cs, T) ∈ L) (i : Nat) : w.cell? ⟨b, i, none⟩ = cs[i]? := by
  rw [cell_of_row w b i _ _ _ (h.here b cs T hm)]; simp

theorem Own.alloc {w0 w : World} {L : List Ent} (h : Own w0 w L) (cs : List Value) (T : TypeId) : Own w0 (w.alloc (.cells cs.toArray T)) ((w.heap.size, cs, T) :: L) := by
  refine ⟨h.os, h.tape, h.output, by have := h.size; simp; omega, ?_, ?_, ?_⟩
  · intro k hk hn
    simp at hn
    rw [Below.heap_alloc w _ k (Nat.lt_of_lt_of_le hk h.size)]
    exact h.keep k hk (by simpa using hn.2)
  · simp only [List.map_cons, List.nodup_cons]
    refine ⟨fun hm => ?_, h.nodup⟩
    obtain ⟨⟨b, cs', T'⟩, hm, e⟩ := List.mem_map.1 hm
    have := h.lt hm
    simp at e; omega
  · intro b cs' T' hm
    rcases List.mem_cons.1 hm with e | hm
    · injection e with e1 e2; injection e2 with e2 e3; subst e1 e2 e3
      exact heap_alloc_new w _
    · rw [Below.heap_alloc w _ b (h.lt hm)]
      exact h.here b cs' T' hm

/-- One entry of the list holds something else now. -/
def At (L : List Ent) (b : Nat) (cs : List Value) (T : TypeId) (cs' : List Value) (L' : List Ent) : Prop :=
  ∃ L1 L2, L = L1 ++ (b, cs, T) :: L2 ∧ L' = L1 ++ (b, cs', T) :: L2

theorem At.head {L : List Ent} {b : Nat} {cs : List Value} {T : TypeId} {cs' : List Value} : At ((b, cs, T) :: L) b cs T cs' ((b, cs', T) :: L) := ⟨[], L, rfl, rfl⟩
theorem At.tail {L L' : List Ent} {e : Ent} {b : Nat} {cs : List Value} {T : TypeId} {cs' : List Value} (h : At L b cs T cs' L') : At (e :: L) b cs T cs' (e :: L') := by
  obtain ⟨L1, L2, rfl, rfl⟩ := h
  exact ⟨e :: L1, L2, rfl, rfl⟩
theorem At.left {L L' M : List Ent} {b : Nat} {cs : List Value} {T : TypeId} {cs' : List Value} (h : At L b cs T cs' L') : At (L ++ M) b cs T cs' (L' ++ M) := by
  obtain ⟨L1, L2, rfl, rfl⟩ := h
  exact ⟨L1, L2 ++ M, by simp, by simp⟩
theorem At.right {L L' M : List Ent} {b : Nat} {cs : List Value} {T : TypeId} {cs' : List Value} (h : At L b cs T cs' L') : At (M ++ L) b cs T cs' (M ++ L') := by
  obtain ⟨L1, L2, rfl, rfl⟩ := h
  exact ⟨M ++ L1, L2, by simp, by simp⟩
theorem At.mem {L L' : List Ent} {b : Nat} {cs : List Value} {T : TypeId} {cs' : List Value} (h : At L b cs T cs' L') : (b, cs, T) ∈ L := by
  obtain ⟨L1, L2, rfl, rfl⟩ := h; simp

theorem Own.set {w0 w : World} {L L' : List Ent} (h : Own w0 w L) {b : Nat} {cs cs' : List Value} {T : TypeId} (ha : At L b cs T cs' L') : Own w0 (w.setRow b cs'.toArray) L' := by
  have hb := h.here b cs T ha.mem
  obtain ⟨L1, L2, rfl, rfl⟩ := ha
  have hnd := h.nodup
  refine ⟨h.os, h.tape, h.output, by have := h.size; simpa using this, ?_, by simpa using hnd, ?_⟩
  · intro k hk hn
    have hkb : k ≠ b := by rintro rfl; simp at hn
    rw [setRow_other w b k _ hkb]
    exact h.keep k hk (by simpa using hn)
  · intro b' cs'' T' hm
    by_cases e : b' = b
    · subst e
      have : (b', cs'', T') = (b', cs', T) := by
        simp only [List.map_append, List.map_cons, List.nodup_append, List.nodup_cons] at hnd
        simp only [List.mem_append, List.mem_cons] at hm
        rcases hm with hm | hm | hm
        · exact absurd rfl (hnd.2.2 b' (List.mem_map.2 ⟨_, hm, rfl⟩) b' (by simp))
        · exact hm
        · exact absurd (List.mem_map.2 ⟨_, hm, rfl⟩) hnd.2.1.1
      injection this with _ e2; injection e2 with e2 e3; subst e2 e3
      exact setRow_heap w b' _ _ _ _ hb
    · rw [setRow_other w b b' _ e]
      refine h.here b' cs'' T' ?_
      simp only [List.mem_append, List.mem_cons] at hm ⊢
      rcases hm with hm | hm | hm
      · exact Or.inl hm
      · injection hm with e1 _; exact absurd e1 e
      · exact Or.inr (Or.inr hm)

/-- What is above the old memory is forgotten. -/
theorem Own.drop {w0 w : World} {L1 L2 : List Ent} (h : Own w0 w (L1 ++ L2)) (hn : ∀ k ∈ L1.map (·.1), w0.heap.size ≤ k) : Own w0 w L2 := by
  refine ⟨h.os, h.tape, h.output, h.size, ?_, ?_, fun b cs T hm => h.here b cs T (List.mem_append_right _ hm)⟩
  · intro k hk hk2
    refine h.keep k hk ?_
    simp only [List.map_append, List.mem_append, not_or]
    exact ⟨fun hm => by have := hn k hm; omega, hk2⟩
  · have := h.nodup
    simp only [List.map_append, List.nodup_append] at this
    exact this.2.1

theorem Own.perm {w0 w : World} {L L' : List Ent} (h : Own w0 w L) (p : L.Perm L') : Own w0 w L' :=
  ⟨h.os, h.tape, h.output, h.size, fun k hk hn => h.keep k hk (fun hm => hn ((p.map _).mem_iff.1 hm)), (p.map _).nodup_iff.1 h.nodup, fun b cs T hm => h.here b cs T (p.mem_iff.2 hm)⟩

theorem Own.dropR {w0 w : World} {L1 L2 : List Ent} (h : Own w0 w (L1 ++ L2)) (hn : ∀ k ∈ L2.map (·.1), w0.heap.size ≤ k) : Own w0 w L1 :=
  (h.perm List.perm_append_comm).drop hn

theorem Own.below {w0 w : World} {L : List Ent} (h : Own w0 w L) (hn : ∀ k ∈ L.map (·.1), w0.heap.size ≤ k) : Below w0.heap.size w0 w :=
  ⟨h.os, h.tape, h.output, h.size, fun k hk => h.keep k hk (fun hm => by have := hn k hm; omega)⟩

/-- A call has turned the blocks L1 into L1', and nothing else that was there. -/
def Upd (w w' : World) (L1 L1' : List Ent) : Prop := Own w w' L1' ∧ (∀ k ∈ L1'.map (·.1), k ∈ L1.map (·.1) ∨ w.heap.size ≤ k)

theorem Own.call {w0 w w' : World} {L1 L1' L : List Ent} (h : Own w0 w (L1 ++ L)) (hu : Upd w w' L1 L1') (hd : ∀ k ∈ L1.map (·.1), k ∈ L1'.map (·.1) ∨ w0.heap.size ≤ k) : Own w0 w' (L1' ++ L) := by
  obtain ⟨hu, hs⟩ := hu
  have hnd := h.nodup
  simp only [List.map_append, List.nodup_append] at hnd
  have hsame : ∀ k, k ∈ L.map (·.1) → w'.heap[k]? = w.heap[k]? := fun k hk => by
    obtain ⟨⟨b, cs, T⟩, hm, rfl⟩ := List.mem_map.1 hk
    have hlt := h.lt (List.mem_append_right _ hm)
    refine hu.keep b hlt (fun hk' => ?_)
    rcases hs b hk' with h1 | h1
    · exact hnd.2.2 b h1 b (List.mem_map.2 ⟨_, hm, rfl⟩) rfl
    · omega
  refine ⟨hu.os.trans h.os, hu.tape.trans h.tape, hu.output.trans h.output, Nat.le_trans h.size hu.size, ?_, ?_, ?_⟩
  · intro k hk hn
    simp only [List.map_append, List.mem_append, not_or] at hn
    rw [hu.keep k (Nat.lt_of_lt_of_le hk h.size) hn.1]
    refine h.keep k hk ?_
    simp only [List.map_append, List.mem_append, not_or]
    refine ⟨fun hm => ?_, hn.2⟩
    rcases hd k hm with h1 | h1
    · exact hn.1 h1
    · omega
  · simp only [List.map_append, List.nodup_append]
    refine ⟨hu.nodup, hnd.2.1, ?_⟩
    rintro a ha b hb rfl
    rcases hs a ha with h1 | h1
    · exact hnd.2.2 a h1 a hb rfl
    · obtain ⟨⟨b, cs, T⟩, hm, rfl⟩ := List.mem_map.1 hb
      have hlt := h.lt (List.mem_append_right _ hm)
      simp only at h1; omega
  · intro b cs T hm
    rcases List.mem_append.1 hm with hm | hm
    · exact hu.here b cs T hm
    · rw [hsame b (List.mem_map.2 ⟨_, hm, rfl⟩)]
      exact h.here b cs T (List.mem_append_right _ hm)

/-- A call that leaves all as it was (but for new memory). -/
theorem Own.call0 {w0 w w' : World} {L : List Ent} (h : Own w0 w L) (hu : Own w w' []) : Own w0 w' L :=
  Own.call (L1 := []) (L1' := []) h ⟨hu, by simp⟩ (by simp)

theorem Upd.of_own {w w' : World} {L' : List Ent} (h : Own w w' L') (hn : ∀ k ∈ L'.map (·.1), w.heap.size ≤ k) : Upd w w' [] L' := ⟨h, fun k hk => Or.inr (hn k hk)⟩

theorem Own.trans {w0 w w' : World} (h : Own w0 w []) (h' : Own w w' []) : Own w0 w' [] := h.call0 h'

/-! ### Old memory -/

theorem Own.old {w0 w : World} {L : List Ent} (h : Own w0 w L) {b i : Nat} {v : Value} (hc : w0.cell? ⟨b, i, none⟩ = some v) (hn : b ∉ L.map (·.1)) : w.cell? ⟨b, i, none⟩ = some v :=
  (World.cell?_of_block (w := w0) (h.keep b (World.block_lt_of_cell? w0 ⟨b, i, none⟩ hc) hn)).trans hc

/-! ### Slices that are read -/

/-- the block in which a slice lies, if it has room at all -/
def blk : Value → Option Nat
  | .slice (some a) _ c => if c = 0 then none else some a.block
  | _ => none

theorem blk_some {a : Addr} {n c k : Nat} (h : blk (.slice (some a) n c) = some k) : a.block = k ∧ c ≠ 0 := by
  simp only [blk] at h
  split at h
  · cases h
  · exact ⟨Option.some.inj h, ‹_›⟩
theorem blk_zero (p : Option Addr) : blk (.slice p 0 0) = none := by cases p <;> rfl

/-- A slice value reads as these cells (n elements; one of no room has whatever address). -/
def SlAt (w : World) (v : Value) (n : Nat) (xs : List Value) : Prop :=
  ((∃ p, v = .slice p 0 0) ∧ n = 0 ∧ xs = []) ∨ ∃ b off cap, v = .slice (some ⟨b, off, none⟩) n cap ∧ (n ≤ cap ∧ (n = 0 → xs = [])) ∧ ∀ i x, xs[i]? = some x → w.cell? ⟨b, off + i, none⟩ = some x

def ints (k : IntKind) (xs : List Int) : List Value := xs.map (Value.int k)
abbrev u8s (xs : List Int) : List Value := ints .u8 xs
abbrev u32s (xs : List Int) : List Value := ints .u32 xs
@[simp] theorem length_ints (k : IntKind) (xs : List Int) : (ints k xs).length = xs.length := by simp [ints]
theorem ints_set (k : IntKind) (xs : List Int) (i : Nat) (v : Int) : ints k (xs.set i v) = (ints k xs).set i (.int k v) := by simp [ints, List.map_set]
theorem ints_get {k : IntKind} {xs : List Int} {i : Nat} (h : i < xs.length) : (ints k xs)[i]? = some (.int k (xs[i]?.getD 0)) := by
  simp [ints, h]
theorem oneCell_ints (k : IntKind) (xs : List Int) : ∀ v ∈ ints k xs, v.oneCell' = true := by
  intro v hv; obtain ⟨x, _, rfl⟩ := List.mem_map.1 hv; rfl
theorem ints_append (k : IntKind) (xs ys : List Int) : ints k (xs ++ ys) = ints k xs ++ ints k ys := by simp [ints]

/-- A slice of bytes reads as these. -/
def BytesAt (w : World) (v : Value) (bs : List Int) : Prop := SlAt w v bs.length (u8s bs)

/-- A slice reads as before: each block that it can lie in is as it was. -/
theorem SlAt.keep {w w' : World} {v : Value} {n : Nat} {xs : List Value} (h : SlAt w v n xs) (hk : ∀ b off n cap, v = .slice (some ⟨b, off, none⟩) n cap → 0 < xs.length → b < w.heap.size → w'.heap[b]? = w.heap[b]?) : SlAt w' v n xs := by
  rcases h with h | ⟨b, off, cap, rfl, hl, hc⟩
  · exact Or.inl h
  · refine Or.inr ⟨b, off, cap, rfl, hl, fun i x hx => ?_⟩
    have h1 := hc i x hx
    have hb := World.block_lt_of_cell? w _ h1
    have hp : 0 < xs.length := by have := (List.getElem?_eq_some_iff.1 hx).1; omega
    exact (World.cell?_of_block (w := w) (hk b off n cap rfl hp hb)).trans h1

theorem SlAt.own {w w' : World} {v : Value} {n : Nat} {xs : List Value} {L : List Ent} (h : SlAt w v n xs) (ho : Own w w' L) (hn : ∀ k, blk v = some k → k ∉ L.map (·.1)) : SlAt w' v n xs := by
  rcases h with h | ⟨b, off, cap, rfl, hl, hc⟩
  · exact Or.inl h
  · refine Or.inr ⟨b, off, cap, rfl, hl, fun i x hx => ?_⟩
    have h1 := hc i x hx
    have hb := World.block_lt_of_cell? w _ h1
    by_cases h0 : cap = 0
    · subst h0
      rw [hl.2 (by omega)] at hx
      cases hx
    · exact (World.cell?_of_block (w := w) (ho.keep b hb (hn b (by simp [blk, h0])))).trans h1

theorem SlAt.own0 {w w' : World} {v : Value} {n : Nat} {xs : List Value} (h : SlAt w v n xs) (ho : Own w w' []) : SlAt w' v n xs := h.own ho (by simp)

theorem SlAt.drewN {w : World} {v : Value} {n : Nat} {xs : List Value} (h : SlAt w v n xs) (m : Nat) : SlAt (w.drewN m) v n xs := h


/-! ### One operation -/

section
variable {P : Program} {ops : Array Oper} {rest : List Oper} {o : Oper} {a : Act} {w w0 : World} {Q : Exit → Act → World → Prop} {L L' : List Ent}

/-- An operation that yields a value and leaves the world. -/
theorem st_val (hg : o.guard = none) {v : Value} (hrun : (execOp a.eval o).run P w = .ok (.value v) w)
    (h : wpList P ops Q rest (a.put o.dst v) w) : wpList P ops Q (o :: rest) a w :=
  wpList_plain hg fun K hK => by unfold Oper.wp; rw [hrun, Oper.upon_value]; exact hK _ _ h

/-- One that turns the world. -/
theorem st_skip (hg : o.guard = none) (hrun : ∃ w', (execOp a.eval o).run P w = .ok .skip w' ∧ Own w0 w' L')
    (h : ∀ w', Own w0 w' L' → wpList P ops Q rest (a.put o.dst undef) w') : wpList P ops Q (o :: rest) a w := by
  obtain ⟨w', hrun, ho⟩ := hrun
  exact wpList_plain hg fun K hK => by unfold Oper.wp; rw [hrun, Oper.upon_skip]; exact hK _ _ (h w' ho)

/-- One that yields a value and turns the world. -/
theorem st_both (hg : o.guard = none) {v : Value} (hrun : ∃ w', (execOp a.eval o).run P w = .ok (.value v) w' ∧ Own w0 w' L')
    (h : ∀ w', Own w0 w' L' → wpList P ops Q rest (a.put o.dst v) w') : wpList P ops Q (o :: rest) a w := by
  obtain ⟨w', hrun, ho⟩ := hrun
  exact wpList_plain hg fun K hK => by unfold Oper.wp; rw [hrun, Oper.upon_value]; exact hK _ _ (h w' ho)

/-- One that lays a new block and yields its address. -/
theorem st_new (hg : o.guard = none) {f : Nat → Value} {g : Nat → List Ent} (hrun : ∃ n w', (execOp a.eval o).run P w = .ok (.value (f n)) w' ∧ w0.heap.size ≤ n ∧ Own w0 w' (g n))
    (h : ∀ n w', w0.heap.size ≤ n → Own w0 w' (g n) → wpList P ops Q rest (a.put o.dst (f n)) w') : wpList P ops Q (o :: rest) a w := by
  obtain ⟨n, w', hrun, hn, ho⟩ := hrun
  exact wpList_plain hg fun K hK => by unfold Oper.wp; rw [hrun, Oper.upon_value]; exact hK _ _ (h n w' hn ho)

def plainDesc : TypeDesc → Bool | .struct _ | .array _ _ => false | _ => true

theorem run_isAgg {ty : TypeId} {d : TypeDesc} (hu : P.underlying ty = some d) (w : World) : (isAgg ty).run P w = .ok (!plainDesc d) w := by
  unfold isAgg
  rw [Sem.run_bind, run_underlying hu w]
  cases d <;> rfl

theorem run_loadVar_cell {ty : TypeId} {d : TypeDesc} (hu : P.underlying ty = some d) (hd : plainDesc d = true) {b i : Nat} {v : Value} (hc : w.cell? ⟨b, i, none⟩ = some v) :
    (loadVar ty ⟨b, i, none⟩).run P w = .ok v w := by
  simp [loadVar, Sem.run_bind, run_isAgg hu, hd, hc]

theorem run_sizeOf {ty : TypeId} {n : Nat} (hs : (P.info? ty).map (·.size) = some n) (w : World) : (sizeOf ty).run P w = .ok n w := by
  cases hq : P.info? ty with
  | none => simp [hq] at hs
  | some i => simp [sizeOf, typeInfo, hq, Sem.run_bind] at hs ⊢; exact hs

theorem add_plain (b o i : Nat) : (⟨b, o, none⟩ : Addr).add i = ⟨b, o + i, none⟩ := by unfold Addr.add; split <;> simp_all

theorem run_loadVar_cells {ty : TypeId} {d : TypeDesc} (hu : P.underlying ty = some d) (hd : plainDesc d = false) {b i : Nat} {vs : List Value} (hs : (P.info? ty).map (·.size) = some vs.length)
    (hc : ∀ j v, vs[j]? = some v → w.cell? ⟨b, i + j, none⟩ = some v) :
    (loadVar ty ⟨b, i, none⟩).run P w = .ok (.agg vs.toArray) w := by
  have hl := run_loadCells_list (P := P) w ⟨b, i, none⟩ vs (fun j v hv => by rw [add_plain]; exact hc j v hv)
  simp [loadVar, Sem.run_bind, run_isAgg hu, hd, run_sizeOf hs, hl]

/-- a load of one cell -/
theorem rn_cell {ty : TypeId} {x : Operand} (ho : o.op = .load ty x) {b i : Nat} (hx : a.eval x = .pointer (some ⟨b, i, none⟩)) {d : TypeDesc} (hu : P.underlying ty = some d) (hd : plainDesc d = true) {v : Value}
    (hc : w.cell? ⟨b, i, none⟩ = some v) : (execOp a.eval o).run P w = .ok (.value v) w := by
  unfold execOp
  simp only [ho, hx, Instr.loadAt, Instr.sureAddr, Sem.run_bind, Sem.run_pure, Result.andThen_ok, run_loadVar_cell hu hd hc]

theorem rn_load (H : Own w0 w L) {ty : TypeId} {x : Operand} (ho : o.op = .load ty x) {b i : Nat} (hx : a.eval x = .pointer (some ⟨b, i, none⟩)) {cs : List Value} {T : TypeId} (hm : (b, cs, T) ∈ L)
    {d : TypeDesc} (hu : P.underlying ty = some d) (hd : plainDesc d = true) {v : Value} (hv : cs[i]? = some v) : (execOp a.eval o).run P w = .ok (.value v) w :=
  rn_cell ho hx hu hd ((H.cell hm i).trans hv)

/-- a load of several -/
theorem rn_cells {ty : TypeId} {x : Operand} (ho : o.op = .load ty x) {b i : Nat} (hx : a.eval x = .pointer (some ⟨b, i, none⟩)) {d : TypeDesc} (hu : P.underlying ty = some d) (hd : plainDesc d = false) {vs : List Value}
    (hs : (P.info? ty).map (·.size) = some vs.length) (hc : ∀ j v, vs[j]? = some v → w.cell? ⟨b, i + j, none⟩ = some v) : (execOp a.eval o).run P w = .ok (.value (.agg vs.toArray)) w := by
  unfold execOp
  simp only [ho, hx, Instr.loadAt, Instr.sureAddr, Sem.run_bind, Sem.run_pure, Result.andThen_ok, run_loadVar_cells hu hd hs hc]

theorem rn_loadRow (H : Own w0 w L) {ty : TypeId} {x : Operand} (ho : o.op = .load ty x) {b i : Nat} (hx : a.eval x = .pointer (some ⟨b, i, none⟩)) {cs : List Value} {T : TypeId} (hm : (b, cs, T) ∈ L)
    {d : TypeDesc} (hu : P.underlying ty = some d) (hd : plainDesc d = false) {vs : List Value} (hs : (P.info? ty).map (·.size) = some vs.length) (hv : (cs.drop i).take vs.length = vs) : (execOp a.eval o).run P w = .ok (.value (.agg vs.toArray)) w :=
  rn_cells ho hx hu hd hs fun j v h => by
    rw [H.cell hm (i + j)]
    rw [← hv, List.getElem?_take] at h
    split at h
    · rw [List.getElem?_drop] at h; exact h
    · cases h

/-- the whole block -/
theorem rn_loadAll (H : Own w0 w L) {ty : TypeId} {x : Operand} (ho : o.op = .load ty x) {b : Nat} (hx : a.eval x = .pointer (some ⟨b, 0, none⟩)) {cs : List Value} {T : TypeId} (hm : (b, cs, T) ∈ L)
    {d : TypeDesc} (hu : P.underlying ty = some d) (hd : plainDesc d = false) (hs : (P.info? ty).map (·.size) = some cs.length) : (execOp a.eval o).run P w = .ok (.value (.agg cs.toArray)) w :=
  rn_loadRow H ho hx hm hu hd hs (by simp)

theorem Own.putCells (H : Own w0 w L) {b i : Nat} {cs vs : List Value} {T : TypeId} (hm : At L b cs T (splice cs i vs) L') (hl : i + vs.length ≤ cs.length) (h1 : ∀ v ∈ vs, v.oneCell' = true) :
    ∃ w', (storeCells ⟨b, i, none⟩ vs).run P w = .ok () w' ∧ Own w0 w' L' := by
  have hb := H.here b cs T hm.mem
  have h := run_storeCells_at P b i T vs 0 cs.toArray w hb (by simpa using hl) h1
  refine ⟨_, h, ?_⟩
  have := H.set hm
  simpa [splice] using this

/-- a store of one cell -/
theorem rn_store (H : Own w0 w L) {ty : TypeId} {x y : Operand} (ho : o.op = .store ty x y) {b i : Nat} (hx : a.eval x = .pointer (some ⟨b, i, none⟩)) {v : Value} (hy : a.eval y = v) (hs : (P.info? ty).map (·.size) = some 1)
    {cs : List Value} {T : TypeId} (hm : At L b cs T (cs.set i v) L') (hi : i < cs.length) (h1 : v.oneCell' = true) :
    ∃ w', (execOp a.eval o).run P w = .ok .skip w' ∧ Own w0 w' L' := by
  have hv : v.cells = #[v] := by cases v <;> first | rfl | (simp [Value.oneCell'] at h1)
  have hsp : splice cs i [v] = cs.set i v := by
    unfold splice
    rw [List.set_eq_take_append_cons_drop, if_pos hi]
    rfl
  obtain ⟨w', hr, ho'⟩ := H.putCells (P := P) (vs := [v]) (by rw [hsp]; exact hm) (by simp; omega) (by simpa using h1)
  refine ⟨w', ?_, ho'⟩
  unfold execOp
  simp only [ho, hx, hy, Instr.storeAt, Instr.sureAddr, storeVar, hv, Sem.run_bind, Sem.run_pure, Result.andThen_ok, run_sizeOf hs]
  simp [hr]

/-- a store of a number into a row of numbers (more may stand behind) -/
theorem rn_storeI (H : Own w0 w L) {ty : TypeId} {x y : Operand} (ho : o.op = .store ty x y) {b i : Nat} (hx : a.eval x = .pointer (some ⟨b, i, none⟩)) {k : IntKind} {z : Int} (hy : a.eval y = .int k z) (hs : (P.info? ty).map (·.size) = some 1)
    {xs : List Int} {T : TypeId} (hm : At L b (ints k xs) T (ints k (xs.set i z)) L') (hi : i < xs.length) :
    ∃ w', (execOp a.eval o).run P w = .ok .skip w' ∧ Own w0 w' L' :=
  rn_store H ho hx hy hs (cs := ints k xs) (by rw [← ints_set]; exact hm) (by simpa using hi) rfl
theorem rn_storeIA (H : Own w0 w L) {ty : TypeId} {x y : Operand} (ho : o.op = .store ty x y) {b i : Nat} (hx : a.eval x = .pointer (some ⟨b, i, none⟩)) {k : IntKind} {z : Int} (hy : a.eval y = .int k z) (hs : (P.info? ty).map (·.size) = some 1)
    {xs : List Int} {rest : List Value} {T : TypeId} (hm : At L b (ints k xs ++ rest) T (ints k (xs.set i z) ++ rest) L') (hi : i < xs.length) :
    ∃ w', (execOp a.eval o).run P w = .ok .skip w' ∧ Own w0 w' L' :=
  rn_store H ho hx hy hs (cs := ints k xs ++ rest) (by rw [List.set_append_left _ _ (by simpa using hi), ← ints_set]; exact hm) (by simp; omega) rfl

/-- a load of a number out of a row of numbers (more may stand behind) -/
theorem rn_loadI (H : Own w0 w L) {ty : TypeId} {x : Operand} (ho : o.op = .load ty x) {b i : Nat} (hx : a.eval x = .pointer (some ⟨b, i, none⟩)) {k : IntKind} {xs : List Int} {T : TypeId} (hm : (b, ints k xs, T) ∈ L)
    {d : TypeDesc} (hu : P.underlying ty = some d) (hd : plainDesc d = true) (hi : i < xs.length) : (execOp a.eval o).run P w = .ok (.value (.int k (xs[i]?.getD 0))) w :=
  rn_load H ho hx hm hu hd (ints_get hi)
theorem rn_loadIA (H : Own w0 w L) {ty : TypeId} {x : Operand} (ho : o.op = .load ty x) {b i : Nat} (hx : a.eval x = .pointer (some ⟨b, i, none⟩)) {k : IntKind} {xs : List Int} {rest : List Value} {T : TypeId} (hm : (b, ints k xs ++ rest, T) ∈ L)
    {d : TypeDesc} (hu : P.underlying ty = some d) (hd : plainDesc d = true) (hi : i < xs.length) : (execOp a.eval o).run P w = .ok (.value (.int k (xs[i]?.getD 0))) w :=
  rn_load H ho hx hm hu hd (by rw [List.getElem?_append_left (by simpa using hi)]; exact ints_get hi)

/-- a store of a row -/
theorem rn_storeRow (H : Own w0 w L) {ty : TypeId} {x y : Operand} (ho : o.op = .store ty x y) {b i : Nat} (hx : a.eval x = .pointer (some ⟨b, i, none⟩)) {vs : List Value} (hy : a.eval y = .agg vs.toArray)
    (hs : (P.info? ty).map (·.size) = some vs.length) {cs : List Value} {T : TypeId} (hm : At L b cs T (splice cs i vs) L') (hl : i + vs.length ≤ cs.length) (h1 : ∀ v ∈ vs, v.oneCell' = true) :
    ∃ w', (execOp a.eval o).run P w = .ok .skip w' ∧ Own w0 w' L' := by
  obtain ⟨w', hr, ho'⟩ := H.putCells (P := P) hm hl h1
  refine ⟨w', ?_, ho'⟩
  unfold execOp
  simp only [ho, hx, hy, Instr.storeAt, Instr.sureAddr, storeVar, Sem.run_bind, Sem.run_pure, Result.andThen_ok, run_sizeOf hs, Value.cells]
  simp [hr]

theorem rn_storeAll (H : Own w0 w L) {ty : TypeId} {x y : Operand} (ho : o.op = .store ty x y) {b : Nat} (hx : a.eval x = .pointer (some ⟨b, 0, none⟩)) {vs : List Value} (hy : a.eval y = .agg vs.toArray)
    (hs : (P.info? ty).map (·.size) = some vs.length) {cs : List Value} {T : TypeId} (hm : At L b cs T vs L') (hl : vs.length = cs.length) (h1 : ∀ v ∈ vs, v.oneCell' = true) :
    ∃ w', (execOp a.eval o).run P w = .ok .skip w' ∧ Own w0 w' L' := by
  refine rn_storeRow H ho hx hy hs (by rw [show splice cs 0 vs = vs by simp [splice, hl]]; exact hm) (by omega) h1

/-- a new variable -/
theorem rn_alloc (H : Own w0 w L) {ty : TypeId} (ho : o.op = .alloc ty) {cs : List Value} (hz : ((P.info? ty).bind (·.zero)).map (fun z => z.cells.toList) = some cs) :
    ∃ n w', (execOp a.eval o).run P w = .ok (.value (.pointer (some ⟨n, 0, none⟩))) w' ∧ w0.heap.size ≤ n ∧ Own w0 w' ((n, cs, ty) :: L) := by
  cases hq : P.info? ty with
  | none => simp [hq] at hz
  | some i =>
    cases hzz : i.zero with
    | none => simp [hq, hzz] at hz
    | some z =>
      simp [hq, hzz] at hz
      refine ⟨w.heap.size, w.alloc (.cells cs.toArray ty), ?_, H.size, H.alloc cs ty⟩
      subst hz
      simp [execOp, ho, Instr.alloc, zeroValue, typeInfo, hq, hzz, newVar, newRow, newObj, Sem.run_bind]
      rfl

theorem rn_box (H : Own w0 w L) {ty : TypeId} {x : Operand} (ho : o.op = .box ty x) {v : Value} (hx : a.eval x = v) {cs : List Value} (hz : v.cells.toList = cs) :
    ∃ n w', (execOp a.eval o).run P w = .ok (.value (.pointer (some ⟨n, 0, none⟩))) w' ∧ w0.heap.size ≤ n ∧ Own w0 w' ((n, cs, ty) :: L) := by
  refine ⟨w.heap.size, w.alloc (.cells cs.toArray ty), ?_, H.size, H.alloc cs ty⟩
  subst hz
  simp [execOp, ho, hx, Instr.box, newVar, newRow, newObj]
  rfl

theorem rn_build {t : TypeId} {parts : Array (Nat × Operand)} (ho : o.op = .build t parts) {cs : List Value} (hf : P.built t (parts.map fun (i, x) => (i, a.eval x)).toList = some cs.toArray) :
    (execOp a.eval o).run P w = .ok (.value (.agg cs.toArray)) w := by
  unfold execOp
  simp only [ho, Sem.run_bind, run_build w t _ _ hf, Result.andThen_ok]
  rfl

/-- the address of an array's element -/
theorem rn_idxArr {t : TypeId} {x ix : Operand} (ho : o.op = .indexAddr t x ix) {n e sz : Nat} (hu : P.underlying t = some (.array n e)) (hs : (P.info? e).map (·.size) = some sz) {b i : Nat} (hx : a.eval x = .pointer (some ⟨b, i, none⟩))
    {k : IntKind} {j : Int} (hj : a.eval ix = .int k j) (h0 : 0 ≤ j) (h1 : j < n) : (execOp a.eval o).run P w = .ok (.value (.pointer (some ⟨b, i + j.toNat * sz, none⟩))) w := by
  unfold execOp
  simp only [ho, hx, hj, Instr.indexAt, asIntOf, Instr.sureAddr, Sem.run_bind, Sem.run_pure, Result.andThen_ok, run_underlying hu]
  simp only [h0, h1, and_self, if_true, Sem.run_bind, run_sizeOf hs, Result.andThen_ok, Sem.run_pure, add_plain]

/-- the address of a slice's element -/
theorem rn_idxSl {t : TypeId} {x ix : Operand} (ho : o.op = .indexAddr t x ix) {e sz : Nat} (hu : P.underlying t = some (.slice e)) (hs : (P.info? e).map (·.size) = some sz) {b i n c : Nat} (hx : a.eval x = .slice (some ⟨b, i, none⟩) n c)
    {k : IntKind} {j : Int} (hj : a.eval ix = .int k j) (h0 : 0 ≤ j) (h1 : j < n) : (execOp a.eval o).run P w = .ok (.value (.pointer (some ⟨b, i + j.toNat * sz, none⟩))) w := by
  unfold execOp
  simp only [ho, hx, hj, Instr.indexAt, asIntOf, Instr.sureAddr, Sem.run_bind, Sem.run_pure, Result.andThen_ok, run_underlying hu]
  simp only [h0, h1, and_self, if_true, Sem.run_bind, run_sizeOf hs, Result.andThen_ok, Sem.run_pure, add_plain]

/-- x[lo:] -/
theorem rn_sliceLo {t : TypeId} {x lo : Operand} (ho : o.op = .slice t x (some lo) none none) {e sz : Nat} (hu : P.underlying t = some (.slice e)) (hs : (P.info? e).map (·.size) = some sz) {b i n c : Nat} (hx : a.eval x = .slice (some ⟨b, i, none⟩) n c)
    {k : IntKind} {j : Int} (hj : a.eval lo = .int k j) (h0 : 0 ≤ j) (h1 : j ≤ n) :
    (execOp a.eval o).run P w = .ok (.value (.slice (some ⟨b, if c = j.toNat then i else i + j.toNat * sz, none⟩) (n - j.toNat) (c - j.toNat))) w := by
  unfold execOp
  simp only [ho, hx, Option.map, hj, Instr.sliceAt, Sem.run_bind, Result.andThen_ok, run_underlying hu, Instr.slice, Instr.sliceBounds, Instr.sliceBound, asIntOf, Sem.run_pure]
  simp only [h0, h1, and_self, if_true, run_sizeOf hs, Result.andThen_ok, Sem.run_pure, add_plain, apply_ite (f := fun p => some (Addr.mk b p none))]

/-! ### The end of a call -/

theorem Own.end0 (H : Own w0 w L) (hn : ∀ k ∈ L.map (·.1), w0.heap.size ≤ k) : Own w0 w [] := Own.drop (L1 := L) (L2 := []) (by rw [List.append_nil]; exact H) hn

theorem fin_cell {fn : Func} {R : Ending → World → Prop} {p ty : Nat} (h : fn.results = #[.cell p ty]) (H : Own w0 w L) {b : Nat} (hp : a.tmps.getD p undef = .pointer (some ⟨b, 0, none⟩)) {cs : List Value} {T : TypeId} (hm : (b, cs, T) ∈ L)
    {d : TypeDesc} (hu : P.underlying ty = some d) (hd : plainDesc d = false) (hs : (P.info? ty).map (·.size) = some cs.length) (hdf : a.defers = []) (hR : R (.returned (.agg cs.toArray)) w) : bodyPost P fn R .ret a w := by
  refine bodyPost_ret (v := .agg cs.toArray) ?_ hdf hR
  have hp' : a.tmps[p]?.getD undef = .pointer (some ⟨b, 0, none⟩) := by simpa using hp
  have hl := run_loadVar_cells (P := P) (w := w) (b := b) (i := 0) (vs := cs) hu hd hs (fun j v hv => by rw [H.cell hm]; simpa using hv)
  simp [results, h, hp', asAddr, hl]

end

end Go.Proofs.Ytokichlmgepdpaa

/-! A region that draws its order, by what is known of each temporary: one obligation an operation, whatever the order; the last operations, whose order is forced, are walked behind it. No dump, no condition. -/
namespace Go.Proofs.Ytokichlmgepdpaa
open Go.RowKit

/-- But for the blocks S all that was there is as it was. -/
structure Keep (S : Nat → Prop) (w w' : World) : Prop where
  os : w'.os = w.os
  tape : w'.tape = w.tape
  output : w'.output = w.output
  size : w.heap.size ≤ w'.heap.size
  block : ∀ k, k < w.heap.size → ¬ S k → w'.heap[k]? = w.heap[k]?

theorem Keep.refl (S : Nat → Prop) (w : World) : Keep S w w := ⟨rfl, rfl, rfl, Nat.le_refl _, fun _ _ _ => rfl⟩
theorem Keep.of_own {w w' : World} (h : Own w w' []) (S : Nat → Prop) : Keep S w w' := ⟨h.os, h.tape, h.output, h.size, fun k hk _ => h.keep k hk (by simp)⟩
theorem Keep.own {w w' : World} (h : Keep (fun _ => False) w w') : Own w w' [] := ⟨h.os, h.tape, h.output, h.size, fun k hk _ => h.block k hk id, List.nodup_nil, fun _ _ _ h => by cases h⟩

abbrev Asn := World → Value → Prop

/-- What an operation has done: its value and the world behind it. -/
def YieldsTo (P : Program) (o : Oper) (a : Act) (w : World) (R : Value → World → Prop) : Prop :=
  match (execOp a.eval o).run P w with
  | .ok (.value v) w' => R v w'
  | .ok .skip w' => R undef w'
  | .ok (.enter f args) w' => Calls P f args w' fun e w'' => ∃ v, e = .returned v ∧ R v w''
  | _ => False

theorem YieldsTo.wp {P : Program} {o : Oper} {a : Act} {w : World} {R : Value → World → Prop} {K : Act → World → Prop} {Q : Exit → Act → World → Prop}
    (h : YieldsTo P o a w R) (hk : ∀ v w', R v w' → K (a.put o.dst v) w') : o.wp P a w K Q := by
  unfold YieldsTo at h
  unfold Oper.wp
  generalize (execOp a.eval o).run P w = r at *
  cases r with
  | halt x w' => exact h.elim
  | ok n w' =>
    cases n <;> simp only [Oper.upon] at h ⊢ <;> first
      | exact hk _ _ h
      | exact h.elim
      | (refine h.mono ?_; rintro e w'' ⟨v, rfl, hr⟩; exact hk _ _ hr)

theorem yieldsTo_val {P : Program} {o : Oper} {a : Act} {w : World} {R : Value → World → Prop} {v : Value} (hrun : (execOp a.eval o).run P w = .ok (.value v) w) (h : R v w) : YieldsTo P o a w R := by
  unfold YieldsTo; rw [hrun]; exact h

section
variable (ops : Array Oper) (n : Nat)

def waitsB (j i : Nat) : Bool := match ops[j]? with | some o => o.after.any fun e => Region.binds .any e && e.on == i | none => false

def clashB (i j : Nat) : Bool :=
  match ops[i]?, ops[j]? with
  | some x, some y =>
    (match x.dst with | some d => (y.looksAt ops).contains d || y.dst == some d | none => false) || (match y.dst with | some d => (x.looksAt ops).contains d | none => false)
  | _, _ => false

/-- In the first n operations whatever is not apart waits, the later one for the earlier one; the last ones stand behind them in one order. -/
def regB : Bool :=
  ((List.range n).all fun j => (List.range j).all fun i => !clashB ops i j || waitsB ops j i) &&
  ((List.range n).all fun i => decide (ops.size = n) || (List.range (n + 1)).any fun j => decide (i < j) && waitsB ops j i) &&
  ((List.range ops.size).all fun t => decide (t ≤ n) || waitsB ops t (t - 1)) &&
  ((List.range ops.size).all fun t => match ops[t]? with | some o => o.after.all fun e => !Region.binds .any e || decide (e.on < t) | none => true) &&
  decide (n ≤ ops.size)

/-- What is known of a temporary behind the first k operations, in the text's order. -/
def asnAt (F0 : Nat → Asn) (A : Nat → Asn) : Nat → Nat → Asn
  | 0, s => F0 s
  | k + 1, s => if (ops[k]?).bind (·.dst) = some s then A k else asnAt F0 A k s

/-- .. in whatever order, those listed done. -/
def asnOf (F0 : Nat → Asn) (A : Nat → Asn) (listed : Array Bool) : Nat → Nat → Asn
  | 0, s => F0 s
  | k + 1, s => if listed.getD k false = true ∧ (ops[k]?).bind (·.dst) = some s then A k else asnOf F0 A listed k s

variable {ops n}

theorem asnOf_full {F0 A : Nat → Asn} {listed : Array Bool} {s : Nat} : ∀ k, (∀ j, j < k → (ops[j]?).bind (·.dst) = some s → listed.getD j false = true) → asnOf ops F0 A listed k s = asnAt ops F0 A k s
  | 0, _ => rfl
  | k + 1, h => by
    simp only [asnOf, asnAt]
    have ih := asnOf_full (F0 := F0) (A := A) k (fun j hj => h j (by omega))
    by_cases hd : (ops[k]?).bind (·.dst) = some s
    · rw [if_pos ⟨h k (by omega) hd, hd⟩, if_pos hd]
    · rw [if_neg (fun hh => hd hh.2), if_neg hd, ih]

theorem asnOf_later {F0 A : Nat → Asn} {listed : Array Bool} {s i : Nat} : ∀ k, i ≤ k → (∀ j, i ≤ j → j < k → (ops[j]?).bind (·.dst) = some s → listed.getD j false = false) → asnOf ops F0 A listed k s = asnOf ops F0 A listed i s
  | 0, h0, _ => by have : i = 0 := by omega
                   subst this; rfl
  | k + 1, h0, h => by
    by_cases hik : i = k + 1
    · subst hik; rfl
    · simp only [asnOf]
      rw [if_neg (fun hh => by have := h k (by omega) (by omega) hh.2; rw [this] at hh; cases hh.1)]
      exact asnOf_later k (by omega) (fun j h1 h2 => h j h1 (by omega))

theorem asnOf_congr {F0 A : Nat → Asn} {l1 l2 : Array Bool} {s : Nat} : ∀ k, (∀ j, j < k → (ops[j]?).bind (·.dst) = some s → l1.getD j false = l2.getD j false) → asnOf ops F0 A l1 k s = asnOf ops F0 A l2 k s
  | 0, _ => rfl
  | k + 1, h => by
    simp only [asnOf]
    have ih := asnOf_congr (F0 := F0) (A := A) k (fun j hj => h j (by omega))
    by_cases hd : (ops[k]?).bind (·.dst) = some s
    · rw [h k (by omega) hd, ih]
    · rw [if_neg (fun hh => hd hh.2), if_neg (fun hh => hd hh.2), ih]

theorem asnOf_mono {F0 A : Nat → Asn} {listed : Array Bool} {s : Nat} {w w' : World} {v : Value} (h0 : ∀ v, F0 s w v → F0 s w' v) : ∀ k, (∀ i, i < k → listed.getD i false = true → ∀ v, A i w v → A i w' v) → asnOf ops F0 A listed k s w v → asnOf ops F0 A listed k s w' v
  | 0, _, h => h0 _ h
  | k + 1, hA, h => by
    simp only [asnOf] at h ⊢
    split at h
    · rename_i hc; rw [if_pos hc]; exact hA k (by omega) hc.1 _ h
    · rename_i hc; rw [if_neg hc]; exact asnOf_mono h0 k (fun i hi => hA i (by omega)) h

theorem waitsB_spec {j i : Nat} (h : waitsB ops j i = true) : ∃ o, ops[j]? = some o ∧ ∃ e ∈ o.after, Region.binds .any e = true ∧ e.on = i := by
  unfold waitsB at h
  split at h
  · rename_i o ho
    obtain ⟨e, he, hb⟩ := Array.any_eq_true'.1 h
    simp only [Bool.and_eq_true, beq_iff_eq] at hb
    exact ⟨o, ho, e, he, hb.1, hb.2⟩
  · cases h

def closedL (ops : Array Oper) (listed : Array Bool) : Prop := ∀ j i, waitsB ops j i = true → listed.getD j false = true → listed.getD i false = true

theorem getD_ff {listed : Array Bool} {i : Nat} (h : listed.getD i true = false) : listed.getD i false = false := by
  rcases Nat.lt_or_ge i listed.size with h' | h'
  · simp [h'] at h ⊢; exact h
  · simp [Array.getElem?_eq_none h'] at h
theorem getD_setT {listed : Array Bool} {i j : Nat} (d : Bool) : (listed.setIfInBounds i true).getD j d = if i = j ∧ i < listed.size then true else listed.getD j d := by
  simp only [Array.getD_eq_getD_getElem?, Array.getElem?_setIfInBounds]
  by_cases hij : i = j
  · subst hij
    by_cases hl : i < listed.size
    · simp [hl]
    · simp [hl]
  · simp [hij]

theorem getD_replicate_false' (m j : Nat) : (Array.replicate m false).getD j false = false := by
  rcases Nat.lt_or_ge j m with h | h
  · simp [h]
  · simp [h]

theorem region_rel {P : Program} {id : Nat} {Q : Exit → Act → World → Prop} {a : Act} {w : World} (n : Nat) (hm : P.follows .mixedOrders = true) (hB : regB ops n = true)
    (hN : ∀ i o d, i < n → ops[i]? = some o → o.dst = some d → d < a.tmps.size)
    (J : Array Bool → World → Prop) (A : Nat → Asn)
    (hJ : J (Array.replicate ops.size false) { w with drawn := w.drawn + 1 })
    (hop : ∀ i o, i < n → ops[i]? = some o → ∀ (listed : Array Bool) (a' : Act) (w' : World), closedL ops listed → (∀ k, waitsB ops i k = true → listed.getD k false = true) → listed.getD i false = false → J listed w' →
      (∀ s ∈ o.looksAt ops, asnAt ops (fun s _ v => v = a.tmps.getD s undef) A i s w' (a'.tmps.getD s undef)) →
      if Region.wanted o (yielded ops a'.tmps) then YieldsTo P o a' w' (fun v w'' => A i w'' v ∧ J (listed.setIfInBounds i true) w'' ∧ ∀ k, k < n → k ≠ i → listed.getD k false = true → ∀ v, A k w' v → A k w'' v) else A i w' undef ∧ J (listed.setIfInBounds i true) w')
    (hend : ∀ (listed : Array Bool) (a' : Act) (w' : World), (∀ k, k < n → listed.getD k false = true) → J listed w' → a'.tmps.size = a.tmps.size → a'.defers = a.defers →
      (∀ s, asnAt ops (fun s _ v => v = a.tmps.getD s undef) A n s w' (a'.tmps.getD s undef)) → wpList P ops Q (ops.toList.drop n) a' w') :
    (Code.region id ops true).wp P Q a w := by
  simp only [regB, Bool.and_eq_true, List.all_eq_true, List.mem_range, Bool.or_eq_true, Bool.not_eq_true', List.any_eq_true, decide_eq_true_eq] at hB
  obtain ⟨⟨⟨⟨hsep, hsink⟩, hchain⟩, hback⟩, hn⟩ := hB
  have hbk : ∀ j i, waitsB ops j i = true → i < j := fun j i h => by
    obtain ⟨o, ho, e, he, hb, rfl⟩ := waitsB_spec h
    have h1 := hback j (Array.getElem?_eq_some_iff.1 ho).1
    rw [ho] at h1
    have h2 := (Array.all_eq_true_iff_forall_mem.1 h1) e he
    simpa [hb] using h2
  let F0 : Nat → Asn := fun s _ v => v = a.tmps.getD s undef
  -- the two phases
  let I1 : Array Bool → Act → World → Prop := fun listed a' w' =>
    (∀ t, n ≤ t → listed.getD t false = false) ∧ J listed w' ∧ a'.tmps.size = a.tmps.size ∧ a'.defers = a.defers ∧ ∀ s, asnOf ops F0 A listed n s w' (a'.tmps.getD s undef)
  let I2 : Array Bool → Act → World → Prop := fun listed a' w' =>
    ∃ t, n ≤ t ∧ t ≤ ops.size ∧ (∀ k, k < t → listed.getD k false = true) ∧ (∀ k, t ≤ k → listed.getD k false = false) ∧ wpList P ops Q (ops.toList.drop t) a' w'
  let I : Array Bool → Act → World → Prop := fun listed a' w' => listed.size = ops.size ∧ closedL ops listed ∧ (I1 listed a' w' ∨ I2 listed a' w')
  have hlist : ∀ (listed : Array Bool) i o, listed.size = ops.size → closedL ops listed → i ∈ Region.ready .any ops listed → ops[i]? = some o →
      (listed.setIfInBounds i true).size = ops.size ∧ closedL ops (listed.setIfInBounds i true) ∧ (∀ k, waitsB ops i k = true → listed.getD k false = true) := by
    intro listed i o hs hc hi ho
    obtain ⟨hun, o', ho', hall⟩ := mem_ready.1 hi
    have hw : ∀ k, waitsB ops i k = true → listed.getD k false = true := fun k hk => by
      obtain ⟨o2, ho2, e, he, hb, hon⟩ := waitsB_spec hk
      have : o2 = o' := Option.some.inj (ho2.symm.trans ho')
      subst this
      rw [← hon]; exact hall e he hb
    refine ⟨by simpa using hs, ?_, hw⟩
    intro j k hjk hj
    rw [getD_setT] at hj ⊢
    split
    · rfl
    · split at hj
      · rename_i h1; rw [← h1.1] at hjk; exact hw k hjk
      · exact hc j k hjk hj
  -- from the whole of the first n to the tail
  have to2 : ∀ listed a' w', (∀ k, k < n → listed.getD k false = true) → I1 listed a' w' → I2 listed a' w' := by
    intro listed a' w' hall ⟨h1, h2, h3, h4, h5⟩
    refine ⟨n, Nat.le_refl _, hn, hall, h1, hend listed a' w' hall h2 h3 h4 (fun s => ?_)⟩
    have := h5 s
    rwa [asnOf_full n (fun j hj _ => hall j hj)] at this
  -- one operation
  have hstep : ∀ listed a' w', I listed a' w' → ∀ i, i ∈ Region.ready .any ops listed → wpOp P ops Q i (I (listed.setIfInBounds i true)) a' w' := by
    intro listed a' w' ⟨hs, hc, hI⟩ i hi
    obtain ⟨hun, o, ho, hall⟩ := mem_ready.1 hi
    obtain ⟨hs', hc', hw⟩ := hlist listed i o hs hc hi ho
    have hilt : i < ops.size := (Array.getElem?_eq_some_iff.1 ho).1
    have hunf := getD_ff hun
    -- phase one or two
    have key : (i < n ∧ I1 listed a' w') ∨ I2 listed a' w' := by
      rcases hI with h1 | h2
      · by_cases hin : i < n
        · exact Or.inl ⟨hin, h1⟩
        · right
          refine to2 _ _ _ (fun k hk => ?_) h1
          -- all before n are done
          have hi_n : i = n := by
            by_cases e : i = n
            · exact e
            · have h3 := hchain i hilt
              rcases h3 with h3 | h3
              · omega
              · have h4 := hw _ h3
                rw [h1.1 (i - 1) (by omega)] at h4; cases h4
          subst hi_n
          have hall2 : ∀ d k, i - k = d → k < i → listed.getD k false = true := by
            intro d
            induction d using Nat.strongRecOn with
            | _ d ih =>
              intro k hd hk
              rcases hsink k hk with h3 | ⟨j, hj, hj2⟩
              · omega
              · by_cases e : j = i
                · subst e; exact hw k hj2.2
                · exact hc j k hj2.2 (ih (i - j) (by omega) j rfl (by omega))
          exact hall2 _ k rfl hk
      · exact Or.inr h2
    unfold wpOp
    simp only [ho]
    rcases key with ⟨hin, h1, h2, h3, h4, h5⟩ | ⟨t, ht1, ht2, ht3, ht4, ht5⟩
    · -- an operation of the first n
      have hasn : ∀ s ∈ o.looksAt ops, asnAt ops F0 A i s w' (a'.tmps.getD s undef) := by
        intro s hsl
        have h6 := h5 s
        have e1 : asnOf ops F0 A listed n s = asnOf ops F0 A listed i s := asnOf_later n (by omega) (fun j h7 h8 hd => by
          cases hlj : listed.getD j false with
          | false => rfl
          | true =>
            by_cases e : j = i
            · subst e; rw [hunf] at hlj; cases hlj
            · have h9 := hsep j h8 i (by omega)
              cases hoj : ops[j]? with
              | none => simp [hoj] at hd
              | some oj =>
                simp only [hoj, Option.bind_some] at hd
                have hcl : clashB ops i j = true := by
                  unfold clashB
                  simp only [ho, hoj, hd]
                  simp [hsl]
                rw [hcl] at h9
                rcases h9 with h9 | h9
                · cases h9
                · have := hc j i h9 hlj
                  rw [hunf] at this; cases this)
        have e2 : asnOf ops F0 A listed i s = asnAt ops F0 A i s := asnOf_full i (fun j h7 hd => by
          have h9 := hsep i hin j h7
          cases hoj : ops[j]? with
          | none => simp [hoj] at hd
          | some oj =>
            simp only [hoj, Option.bind_some] at hd
            have hcl : clashB ops j i = true := by
              unfold clashB
              simp only [ho, hoj, hd]
              simp [hsl]
            rw [hcl] at h9
            rcases h9 with h9 | h9
            · cases h9
            · exact hw j h9)
        rw [e1, e2] at h6
        exact h6
      have hmain := hop i o hin ho listed a' w' hc hw hunf h2 hasn
      -- behind it
      have hnext : ∀ v w'', A i w'' v → J (listed.setIfInBounds i true) w'' → (∀ k, k < n → k ≠ i → listed.getD k false = true → ∀ v, A k w' v → A k w'' v) → I (listed.setIfInBounds i true) (a'.put o.dst v) w'' := by
        intro v w'' hv hJ' hk
        refine ⟨hs', hc', Or.inl ⟨fun t ht => ?_, hJ', ?_, ?_, fun s => ?_⟩⟩
        · rw [getD_setT, if_neg (by omega)]; exact h1 t ht
        · cases hd : o.dst with
          | none => simp [Act.put, h3]
          | some d => simp [Act.put, h3]
        · cases hd : o.dst with
          | none => simp [Act.put, h4]
          | some d => simp [Act.put, h4]
        · have hcarry : asnOf ops F0 A listed n s w'' (a'.tmps.getD s undef) := by
            refine asnOf_mono (w := w') (w' := w'') (fun _ h => h) n (fun k hk1 hk2 => hk k hk1 (fun e => ?_) hk2) (h5 s)
            subst e; rw [hunf] at hk2; cases hk2
          by_cases hds : o.dst = some s
          · -- its own temporary
            have hsz := hN i o s hin ho hds
            have hget : (a'.put o.dst v).tmps.getD s undef = v := by
              rw [hds]; simp [Act.put, h3, hsz]
            rw [hget]
            have e1 : asnOf ops F0 A (listed.setIfInBounds i true) n s = asnOf ops F0 A (listed.setIfInBounds i true) (i + 1) s := asnOf_later n (by omega) (fun j h7 h8 hd => by
              rw [getD_setT, if_neg (by omega)]
              cases hlj : listed.getD j false with
              | false => rfl
              | true =>
                have h9 := hsep j h8 i (by omega)
                cases hoj : ops[j]? with
                | none => simp [hoj] at hd
                | some oj =>
                  simp only [hoj, Option.bind_some] at hd
                  have hcl : clashB ops i j = true := by
                    unfold clashB
                    simp only [ho, hoj, hd, hds]
                    simp
                  rw [hcl] at h9
                  rcases h9 with h9 | h9
                  · cases h9
                  · have := hc j i h9 hlj
                    rw [hunf] at this; cases this)
            rw [e1]
            simp only [asnOf]
            rw [if_pos ⟨by rw [getD_setT, if_pos ⟨rfl, by omega⟩], by rw [ho]; exact hds⟩]
            exact hv
          · have hget : (a'.put o.dst v).tmps.getD s undef = a'.tmps.getD s undef := by
              cases hd : o.dst with
              | none => rfl
              | some d =>
                have hne : d ≠ s := fun e => hds (by rw [hd, e])
                simp [Act.put, Array.getElem?_setIfInBounds_ne hne]
            rw [hget]
            have e1 : asnOf ops F0 A (listed.setIfInBounds i true) n s = asnOf ops F0 A listed n s := asnOf_congr n (fun j h7 hd => by
              rw [getD_setT, if_neg]
              rintro ⟨rfl, _⟩
              rw [ho] at hd; exact hds hd)
            rw [e1]; exact hcarry
      split
      · rename_i hwt
        rw [if_pos hwt] at hmain
        exact Or.inl (hmain.wp fun v w'' ⟨hv, hJ', hk⟩ => hnext v w'' hv hJ' hk)
      · rename_i hwt
        rw [if_neg hwt] at hmain
        exact hnext undef w' hmain.1 hmain.2 (fun _ _ _ _ _ h => h)
    · -- the tail
      have hit : i = t := by
        have h6 : t ≤ i := by
          rcases Nat.lt_or_ge i t with h | h
          · have := ht3 i h; rw [hunf] at this; cases this
          · exact h
        by_cases e : i = t
        · exact e
        · rcases hchain i hilt with h7 | h7
          · omega
          · have := hw _ h7
            rw [ht4 (i - 1) (by omega)] at this; cases this
      subst hit
      have hdrop : ops.toList.drop i = o :: ops.toList.drop (i + 1) := by
        rw [List.drop_eq_getElem_cons (by simpa using hilt)]
        congr 1
        have := (Array.getElem?_eq_some_iff.1 ho).2
        simpa using this
      rw [hdrop] at ht5
      have hnext : ∀ a'' w'', wpList P ops Q (ops.toList.drop (i + 1)) a'' w'' → I (listed.setIfInBounds i true) a'' w'' := by
        intro a'' w'' h
        refine ⟨hs', hc', Or.inr ⟨i + 1, by omega, by omega, fun k hk => ?_, fun k hk => ?_, h⟩⟩
        · rw [getD_setT]
          split
          · rfl
          · rename_i h6
            exact ht3 k (by
              by_cases e : i = k
              · exact absurd ⟨e, by omega⟩ h6
              · omega)
        · rw [getD_setT, if_neg (by omega)]; exact ht4 k (by omega)
      unfold wpList at ht5
      split
      · rename_i hwt
        rw [if_pos hwt] at ht5
        rcases ht5 with h | h
        · exact Or.inl (Oper.wp_mono (fun a w h => hnext a w h) h)
        · exact Or.inr h
      · rename_i hwt
        rw [if_neg hwt] at ht5
        exact hnext _ _ ht5
  -- nothing is left
  have hdone : ∀ listed a' w', I listed a' w' → Region.ready .any ops listed = [] → Q .normal a' w' := by
    intro listed a' w' ⟨hs, hc, hI⟩ hr
    have hallD : ∀ k, k < ops.size → listed.getD k false = true := by
      intro k
      induction k using Nat.strongRecOn with
      | _ k ih =>
        intro hk
        cases hl : listed.getD k false with
        | true => rfl
        | false =>
          have hmem : k ∈ Region.ready .any ops listed := by
            refine mem_ready.2 ⟨by simpa [hs, hk] using hl, ops[k], by simp [hk], fun e he hb => ?_⟩
            have hwk : waitsB ops k e.on = true := by
              unfold waitsB
              simp only [Array.getElem?_eq_getElem hk]
              exact Array.any_eq_true'.2 ⟨e, he, by simp [hb]⟩
            have := hbk k e.on hwk
            exact ih e.on this (by omega)
          rw [hr] at hmem; cases hmem
    have h2 : I2 listed a' w' := by
      rcases hI with h1 | h2
      · exact to2 _ _ _ (fun k hk => hallD k (by omega)) h1
      · exact h2
    obtain ⟨t, ht1, ht2, ht3, ht4, ht5⟩ := h2
    have : t = ops.size := by
      rcases Nat.lt_or_ge t ops.size with h | h
      · have := hallD t h; rw [ht4 t (Nat.le_refl _)] at this; cases this
      · omega
    subst this
    rw [List.drop_of_length_le (by simp)] at ht5
    exact ht5
  -- the walk
  refine wp_region_any hm ?_
  have hwalk : ∀ fuel (listed : Array Bool) a' w', ((List.range ops.size).filter fun i => !listed.getD i true).length ≤ fuel → I listed a' w' → wpAny P .any ops Q fuel listed a' w' := by
    intro fuel
    induction fuel with
    | zero =>
      intro listed a' w' hf hI
      have hr : Region.ready .any ops listed = [] := by
        rw [List.eq_nil_iff_forall_not_mem]
        intro i hi
        have hm' : i ∈ (List.range ops.size).filter fun i => !listed.getD i true := by
          obtain ⟨hun, o, ho, _⟩ := mem_ready.1 hi
          exact List.mem_filter.2 ⟨List.mem_range.2 (Array.getElem?_eq_some_iff.1 ho).1, by rw [hun]; rfl⟩
        have := List.length_pos_of_mem hm'
        omega
      exact ⟨hr, hdone _ _ _ hI hr⟩
    | succ fuel ih =>
      intro listed a' w' hf hI
      refine ⟨hdone _ _ _ hI, fun i hi => ?_⟩
      refine wpOp_mono (fun a'' w'' h => ih _ a'' w'' ?_ h) (hstep _ _ _ hI i hi)
      obtain ⟨hun, o, ho, _⟩ := mem_ready.1 hi
      have hilt : i < ops.size := (Array.getElem?_eq_some_iff.1 ho).1
      have hm' : i ∈ (List.range ops.size).filter fun i => !listed.getD i true := List.mem_filter.2 ⟨List.mem_range.2 hilt, by rw [hun]; rfl⟩
      have hsub : ((List.range ops.size).filter fun j => !(listed.setIfInBounds i true).getD j true).length < ((List.range ops.size).filter fun j => !listed.getD j true).length := by
        have h1 : ((List.range ops.size).filter fun j => !(listed.setIfInBounds i true).getD j true) = ((List.range ops.size).filter fun j => !listed.getD j true).filter (fun j => j != i) := by
          rw [List.filter_filter]
          apply List.filter_congr
          intro j _
          rw [getD_setT]
          by_cases e : i = j
          · subst e
            by_cases hl : i < listed.size
            · simp [hl]
            · simp [hl]
          · have e' : (j != i) = true := by simp; omega
            simp [e, e']
        rw [h1]
        exact List.length_filter_lt_length_iff_exists.2 ⟨i, hm', by simp⟩
      omega
  refine hwalk ops.size _ a _ ?_ ⟨by simp, fun j i h hj => ?_, Or.inl ⟨fun t _ => ?_, hJ, rfl, rfl, fun s => ?_⟩⟩
  · exact Nat.le_trans (List.length_filter_le _ _) (by simp)
  · exfalso
    rw [getD_replicate_false'] at hj; cases hj
  · exact getD_replicate_false' _ _
  · have : ∀ k, asnOf ops F0 A (Array.replicate ops.size false) k s = F0 s := by
      intro k
      induction k with
      | zero => rfl
      | succ k ih =>
        simp only [asnOf]
        rw [if_neg (fun h => by rw [getD_replicate_false'] at h; cases h.1), ih]
    rw [this]

/-! ### Where the values do not hang on the world: one walk, in the text's order -/

/-- The frame behind the first k operations, in the text's order. -/
def frameAt (ops : Array Oper) (vals : Nat → Value) (a : Act) : Nat → Act
  | 0 => a
  | k + 1 => (frameAt ops vals a k).put ((ops[k]?).bind (·.dst)) (vals k)

theorem frameAt_size {vals : Nat → Value} {a : Act} : ∀ k, (frameAt ops vals a k).tmps.size = a.tmps.size
  | 0 => rfl
  | k + 1 => by
    have ih := frameAt_size (vals := vals) (a := a) k
    simp only [frameAt]
    cases (ops[k]?).bind (·.dst) <;> simp [Act.put, ih]

theorem frameAt_defers {vals : Nat → Value} {a : Act} : ∀ k, (frameAt ops vals a k).defers = a.defers
  | 0 => rfl
  | k + 1 => by
    have ih := frameAt_defers (vals := vals) (a := a) k
    simp only [frameAt]
    cases (ops[k]?).bind (·.dst) <;> simp [Act.put, ih]

theorem asnAt_frame {vals : Nat → Value} {a : Act} {s : Nat} {w : World} {x : Value} : ∀ k, (∀ i o d, i < k → ops[i]? = some o → o.dst = some d → d < a.tmps.size) →
    asnAt ops (fun s _ v => v = a.tmps.getD s undef) (fun i _ v => v = vals i) k s w x → x = (frameAt ops vals a k).tmps.getD s undef
  | 0, _, h => h
  | k + 1, hN, h => by
    simp only [asnAt] at h
    simp only [frameAt]
    split at h
    · rename_i hd
      rw [hd]
      cases ho : ops[k]? with
      | none => simp [ho] at hd
      | some o =>
        simp only [ho, Option.bind_some] at hd
        have hlt := hN k o s (by omega) ho hd
        have hsz := frameAt_size (ops := ops) (vals := vals) (a := a) k
        simp [Act.put, hsz, hlt, h]
    · rename_i hd
      have ih := asnAt_frame (vals := vals) (a := a) k (fun i o d hi => hN i o d (by omega)) h
      rw [ih]
      cases hb : (ops[k]?).bind (·.dst) with
      | none => rfl
      | some d =>
        have hne : d ≠ s := fun e => hd (by rw [hb, e])
        simp [Act.put, Array.getElem?_setIfInBounds_ne hne]

theorem quiet_vals {P : Program} {C : World → Prop} {K : Act → Prop} : ∀ (m k : Nat) (a0 : Act) (vals : Nat → Value), k + m ≤ ops.size →
    wpQuiet P ops C K ((ops.toList.drop k).take m) (frameAt ops vals a0 k) →
    ∃ vals', (∀ i, i < k → vals' i = vals i) ∧ (∀ i o, k ≤ i → i < k + m → ops[i]? = some o →
      (Region.wanted o (yielded ops (frameAt ops vals' a0 i).tmps) = true ∧ ∀ w, C w → o.quietAt P (frameAt ops vals' a0 i) C w (vals' i)) ∨
      (Region.wanted o (yielded ops (frameAt ops vals' a0 i).tmps) = false ∧ vals' i = undef)) ∧ K (frameAt ops vals' a0 (k + m))
  | 0, k, a0, vals, _, h => ⟨vals, fun _ _ => rfl, fun i o h1 h2 => by omega, by simpa [wpQuiet] using h⟩
  | m + 1, k, a0, vals, hk, h => by
    have hkl : k < ops.toList.length := by simp; omega
    rw [List.drop_eq_getElem_cons hkl, List.take_succ_cons] at h
    have ho : ops[k]? = some ops.toList[k] := by simp
    simp only [wpQuiet] at h
    have hcong : ∀ (vals' : Nat → Value), (∀ i, i < k → vals' i = vals i) → frameAt ops vals' a0 k = frameAt ops vals a0 k := by
      intro vals' hv
      have : ∀ j, j ≤ k → frameAt ops vals' a0 j = frameAt ops vals a0 j := by
        intro j
        induction j with
        | zero => intro _; rfl
        | succ j ih => intro hj; simp only [frameAt]; rw [ih (by omega), hv j (by omega)]
      exact this k (Nat.le_refl _)
    -- what this one yields
    have one : ∃ v, ((Region.wanted ops.toList[k] (yielded ops (frameAt ops vals a0 k).tmps) = true ∧ ∀ w, C w → (ops.toList[k]).quietAt P (frameAt ops vals a0 k) C w v) ∨
        (Region.wanted ops.toList[k] (yielded ops (frameAt ops vals a0 k).tmps) = false ∧ v = undef)) ∧
        wpQuiet P ops C K ((ops.toList.drop (k + 1)).take m) ((frameAt ops vals a0 k).put (ops.toList[k]).dst v) := by
      split at h
      · rename_i hw
        obtain ⟨v, h1, h2⟩ := h
        exact ⟨v, Or.inl ⟨hw, h1⟩, h2⟩
      · rename_i hw
        exact ⟨undef, Or.inr ⟨by simpa using hw, rfl⟩, h⟩
    obtain ⟨v, hv, hrest⟩ := one
    let vals1 : Nat → Value := fun i => if i = k then v else vals i
    have h1 : frameAt ops vals1 a0 k = frameAt ops vals a0 k := hcong vals1 (fun i hi => by simp only [vals1]; rw [if_neg (by omega)])
    have h2 : frameAt ops vals1 a0 (k + 1) = (frameAt ops vals a0 k).put (ops.toList[k]).dst v := by
      simp only [frameAt, h1, ho, Option.bind_some, vals1, if_true]
    obtain ⟨vals', g1, g2, g3⟩ := quiet_vals m (k + 1) a0 vals1 (by omega) (by rw [h2]; exact hrest)
    have g4 : ∀ i, i < k → vals' i = vals i := fun i hi => by rw [g1 i (by omega)]; simp only [vals1]; rw [if_neg (by omega)]
    refine ⟨vals', g4, fun i o hi1 hi2 hoi => ?_, by rw [show k + (m + 1) = k + 1 + m by omega]; exact g3⟩
    by_cases e : i = k
    · subst e
      have : o = ops.toList[i] := Option.some.inj (hoi.symm.trans ho)
      subst this
      have hvi : vals' i = v := by rw [g1 i (by omega)]; simp only [vals1, if_true]
      rw [hcong vals' g4, hvi]
      exact hv
    · exact g2 i o (by omega) (by omega) hoi

/-- every temporary of the first n operations lies in the frame -/
def dstsB (ops : Array Oper) (n m : Nat) : Bool := (ops.toList.take n).all fun o => match o.dst with | some d => decide (d < m) | none => true

theorem dstsB_spec {m : Nat} (h : dstsB ops n m = true) : ∀ i o d, i < n → ops[i]? = some o → o.dst = some d → d < m := by
  intro i o d hi ho hd
  have h1 := List.all_eq_true.1 h o (by
    rw [List.mem_take_iff_getElem]
    have hlt : i < ops.size := (Array.getElem?_eq_some_iff.1 ho).1
    refine ⟨i, by simp; omega, ?_⟩
    have := (Array.getElem?_eq_some_iff.1 ho).2
    simpa using this)
  simpa [hd] using h1

theorem region_quiet {P : Program} {id : Nat} {Q : Exit → Act → World → Prop} {a : Act} {w : World} (n : Nat) (hm : P.follows .mixedOrders = true) (hB : (regB ops n && Region.noSelect ops) = true) (hN : dstsB ops n a.tmps.size = true)
    (C : World → Prop) (hC : C { w with drawn := w.drawn + 1 })
    (h : wpQuiet P ops C (fun a' => ∀ w', C w' → wpList P ops Q (ops.toList.drop n) a' w') (ops.toList.take n) a) : (Code.region id ops true).wp P Q a w := by
  rw [Bool.and_eq_true] at hB
  obtain ⟨hB, hsel⟩ := hB
  have hN' := dstsB_spec hN
  have hns : n ≤ ops.size := by
    simp only [regB, Bool.and_eq_true, decide_eq_true_eq] at hB
    exact hB.2
  obtain ⟨vals, _, g2, g3⟩ := quiet_vals (ops := ops) n 0 a (fun _ => undef) (by omega) (by simpa [frameAt] using h)
  rw [Nat.zero_add] at g3
  refine region_rel n hm hB hN' (fun _ => C) (fun i _ v => v = vals i) hC ?_ ?_
  · intro i o hi ho listed a' w' _ _ _ hCw hasn
    have heq : ∀ s ∈ o.looksAt ops, a'.tmps.getD s undef = (frameAt ops vals a i).tmps.getD s undef := fun s hs => asnAt_frame i (fun j o d hj => hN' j o d (by omega)) (hasn s hs)
    have hsel' := Region.noSelect_spec hsel
    have hexec : execOp a'.eval o = execOp (frameAt ops vals a i).eval o := execOp_congr o (fun cs b => hsel' i o cs b ho) (fun x hx => by
      cases x with
      | tmp t => exact heq t (List.mem_append_left _ (List.mem_filterMap.2 ⟨.tmp t, by simpa using hx, rfl⟩))
      | _ => rfl)
    have hwant : Region.wanted o (yielded ops a'.tmps) = Region.wanted o (yielded ops (frameAt ops vals a i).tmps) := by
      unfold Region.wanted
      cases hg : o.guard with
      | none => rfl
      | some gw =>
        obtain ⟨g, want⟩ := gw
        have : yielded ops a'.tmps g = yielded ops (frameAt ops vals a i).tmps g := by
          unfold yielded
          cases ht : (ops[g]?).bind (·.dst) with
          | none => rfl
          | some t =>
            have h1 := heq t (by simp [Oper.looksAt, hg, ht])
            simp only [Option.bind_some]
            simp only [Array.getD_eq_getD_getElem?] at h1
            cases hx : a'.tmps[t]? with
            | none =>
              cases hy : (frameAt ops vals a i).tmps[t]? with
              | none => rfl
              | some y =>
                rw [hx, hy] at h1
                simp only [Option.getD_none, Option.getD_some] at h1
                rw [← h1]; rfl
            | some x =>
              cases hy : (frameAt ops vals a i).tmps[t]? with
              | none =>
                rw [hx, hy] at h1
                simp only [Option.getD_none, Option.getD_some] at h1
                rw [h1]; rfl
              | some y =>
                rw [hx, hy] at h1
                simp only [Option.getD_some] at h1
                rw [h1]
        simp only [this]
    rw [hwant]
    rcases g2 i o (by omega) (by omega) ho with ⟨hw1, hq⟩ | ⟨hw1, hv⟩
    · rw [if_pos hw1]
      have hq' := hq w' hCw
      unfold Oper.quietAt at hq'
      unfold YieldsTo
      rw [hexec]
      generalize (execOp (frameAt ops vals a i).eval o).run P w' = r at *
      cases r with
      | halt x w'' => exact hq'.elim
      | ok nx w'' =>
        cases nx <;> simp only [Oper.quietUpon] at hq' ⊢
        case value u => obtain ⟨rfl, rfl⟩ := hq'; exact ⟨rfl, hCw, fun _ _ _ _ _ h => h⟩
        case skip => obtain ⟨rfl, hv⟩ := hq'; exact ⟨hv.symm, hCw, fun _ _ _ _ _ h => h⟩
        case enter f args =>
          obtain ⟨rfl, hc⟩ := hq'
          exact hc.mono fun e w3 ⟨he, hc3⟩ => ⟨_, he, rfl, hc3, fun _ _ _ _ _ h => h⟩
    · rw [if_neg (by rw [hw1]; exact Bool.false_ne_true)]
      exact ⟨hv.symm, hCw⟩
  · intro listed a' w' _ hCw hs hd hasn
    have : a' = frameAt ops vals a n := by
      have h1 := frameAt_size (ops := ops) (vals := vals) (a := a) n
      have h2 := frameAt_defers (ops := ops) (vals := vals) (a := a) n
      have h3 : a'.tmps = (frameAt ops vals a n).tmps := by
        apply Array.ext
        · omega
        · intro j hj1 hj2
          have := asnAt_frame (s := j) n hN' (hasn j)
          simpa [hj1, hj2] using this
      obtain ⟨t1, d1⟩ := a'
      generalize frameAt ops vals a n = fr at h2 h3
      obtain ⟨t3, d3⟩ := fr
      simp only at h2 h3 hd
      rw [h3, hd, h2]
    rw [this]
    exact g3 w' hCw

/-- the same at the class 'this world, but for draws', the operations written out -/
theorem region_drew {P : Program} {id : Nat} {l : List Oper} {Q : Exit → Act → World → Prop} {a : Act} {w : World} (n : Nat) (hm : P.follows .mixedOrders = true) (hB : (regB l.toArray n && Region.noSelect l.toArray) = true) (hN : dstsB l.toArray n a.tmps.size = true)
    (h : wpQuiet P l.toArray (fun w' => ∃ m, w' = w.drewN m) (fun a' => ∀ w', (∃ m, w' = w.drewN m) → wpList P l.toArray Q (l.drop n) a' w') (l.take n) a) : (Code.region id l.toArray true).wp P Q a w :=
  region_quiet n hm hB hN (fun w' => ∃ m, w' = w.drewN m) ⟨1, rfl⟩ (by simpa using h)

theorem qd_val {P : Program} {ops : Array Oper} {K : Act → Prop} {rest : List Oper} {o : Oper} {a : Act} {w : World} (hg : o.guard = none) {v : Value}
    (hrun : ∀ m, (execOp a.eval o).run P (w.drewN m) = .ok (.value v) (w.drewN m)) (h : wpQuiet P ops (fun w' => ∃ m, w' = w.drewN m) K rest (a.put o.dst v)) :
    wpQuiet P ops (fun w' => ∃ m, w' = w.drewN m) K (o :: rest) a :=
  wpQuiet_step fun K' hK => by
    rw [if_pos (by simp [Region.wanted, hg])]
    refine ⟨v, fun w' ⟨m, hm⟩ => ?_, hK _ h⟩
    unfold Oper.quietAt
    rw [hm, hrun m]
    exact ⟨rfl, rfl⟩

end
end Go.Proofs.Ytokichlmgepdpaa

/-! More operations over what a call owns: slices of arrays, copy, append, slice literals. No dump, no condition. -/
namespace Go.Proofs.Ytokichlmgepdpaa
open Go.RowKit

section
variable {P : Program} {ops : Array Oper} {rest : List Oper} {o : Oper} {a : Act} {w w0 : World} {Q : Exit → Act → World → Prop} {L L' : List Ent}

/-- What is known of an element's type. -/
structure Elem (P : Program) (e sz by_ : Nat) : Prop where
  ex : ∃ i z, P.info? e = some i ∧ i.zero = some z ∧ i.size = sz ∧ i.bytes = by_ ∧ z.cells.size = sz
  pos : 0 < sz

theorem Elem.of {e sz by_ : Nat} (h : ((P.info? e).bind fun i => i.zero.map fun z => (i.size, i.bytes, z.cells.size)) = some (sz, by_, sz)) (hp : 0 < sz) : Elem P e sz by_ := by
  cases hi : P.info? e with
  | none => simp [hi] at h
  | some i =>
    cases hz : i.zero with
    | none => simp [hi, hz] at h
    | some z =>
      simp [hi, hz] at h
      exact ⟨⟨i, z, hi, hz, h.1, h.2.1, h.2.2⟩, hp⟩

theorem Elem.size {e sz by_ : Nat} (h : Elem P e sz by_) : (P.info? e).map (·.size) = some sz := by
  obtain ⟨⟨i, z, hi, _, hs, _⟩, _⟩ := h
  simp [hi, hs]

/-- a bound of a slice expression, where it is named and where it is not -/
inductive BoundIs : Option Value → Nat → Nat → Prop
  | no (d : Nat) : BoundIs none d d
  | yes {k : IntKind} {j : Int} {d l : Nat} (h : j = (l : Int)) : BoundIs (some (.int k j)) d l

theorem BoundIs.is {y : Option Value} {v : Value} {k : IntKind} {j : Int} {d l : Nat} (hy : y = some v) (hv : v = .int k j) (h : j = (l : Int)) : BoundIs y d l := by
  subst hy hv; exact .yes h

/-- x[lo:hi] of an array behind a pointer, both bounds given as numbers (lo 0 where none is named) -/
theorem rn_sliceArr {t : TypeId} {x : Operand} {lo hi : Option Operand} (ho : o.op = .slice t x lo hi none) {n e sz : Nat} (hu : P.underlying t = some (.array n e)) (hs : (P.info? e).map (·.size) = some sz) {b i : Nat} (hx : a.eval x = .pointer (some ⟨b, i, none⟩))
    {l h : Nat} (hl : BoundIs (lo.map a.eval) 0 l) (hh : BoundIs (hi.map a.eval) n h) (h1 : l ≤ h) (h2 : h ≤ n) :
    (execOp a.eval o).run P w = .ok (.value (.slice (some ⟨b, if n = l then i else i + l * sz, none⟩) (h - l) (n - l))) w := by
  unfold execOp
  simp only [ho]
  generalize lo.map a.eval = lov at hl ⊢
  generalize hi.map a.eval = hiv at hh ⊢
  cases hl with
  | no =>
    cases hh with
    | no => simp [hx, Instr.sliceAt, Sem.run_bind, run_underlying hu, Instr.sliceBounds, Instr.sureAddr, run_sizeOf hs, add_plain]
    | yes h' =>
      subst h'
      simp [hx, Instr.sliceAt, Sem.run_bind, run_underlying hu, Instr.sliceBounds, Instr.sliceBound, asIntOf, Instr.sureAddr, run_sizeOf hs, add_plain, h2]
  | yes h' =>
    subst h'
    cases hh with
    | no =>
      simp [hx, Instr.sliceAt, Sem.run_bind, run_underlying hu, Instr.sliceBounds, Instr.sliceBound, asIntOf, Instr.sureAddr, run_sizeOf hs, add_plain, h1]
      split <;> rfl
    | yes h'' =>
      subst h''
      simp [hx, Instr.sliceAt, Sem.run_bind, run_underlying hu, Instr.sliceBounds, Instr.sliceBound, asIntOf, Instr.sureAddr, run_sizeOf hs, add_plain, h1, h2]
      split <;> rfl

theorem run_firstCells_slAt {v : Value} {n m : Nat} {xs : List Value} (h : SlAt w v n xs) (hxl : xs.length = n) (hm : m ≤ n) : (Builtin.firstCells 1 m v).run P w = .ok (xs.take m).toArray w := by
  rcases h with ⟨⟨p, rfl⟩, rfl, rfl⟩ | ⟨b, off, cap, rfl, _, hc⟩
  · obtain rfl : m = 0 := by omega
    cases p <;> simp [Builtin.firstCells, loadCells, loadCellsFrom]
  · have hl := run_loadCells_list (P := P) w ⟨b, off, none⟩ (xs.take m) (fun j u hu => by
      rw [add_plain]
      rw [List.getElem?_take] at hu
      split at hu
      · exact hc j u hu
      · cases hu)
    have hlen : (xs.take m).length = m := by simp; omega
    rw [hlen] at hl
    simp [Builtin.firstCells, hl]

/-- x[:] of an array behind a pointer -/
theorem rn_sliceAll {t : TypeId} {x : Operand} (ho : o.op = .slice t x none none none) {n e sz : Nat} (hu : P.underlying t = some (.array n e)) (hs : (P.info? e).map (·.size) = some sz) {b i : Nat} (hx : a.eval x = .pointer (some ⟨b, i, none⟩)) (hn : 0 < n) :
    (execOp a.eval o).run P w = .ok (.value (.slice (some ⟨b, i, none⟩) n n)) w := by
  have h := rn_sliceArr (w := w) ho hu hs hx (by exact .no _) (by exact .no _) (Nat.zero_le n) (Nat.le_refl n)
  rw [if_neg (by omega)] at h
  simpa using h

/-- copy into a row that is owned, from whatever slice of one-cell elements -/
theorem rn_copy (H : Own w0 w L) {d s : Operand} {dT sT : TypeId} (ho : o.op = .call { callee := .builtin .copy, args := #[d, s], argTypes := #[dT, sT] }) {e : TypeId} (hu : P.underlying dT = some (.slice e)) (hsz : (P.info? e).map (·.size) = some 1)
    {b off dl dc : Nat} (hd : a.eval d = .slice (some ⟨b, off, none⟩) dl dc) {sv : Value} (hsv : a.eval s = sv) {sl : Nat} {xs : List Value} (hs : SlAt w sv sl xs) (hxl : xs.length = sl)
    {cs : List Value} {T : TypeId} (hm : At L b cs T (splice cs off (xs.take dl)) L') (hfit : off + Nat.min sl dl ≤ cs.length) (h1 : ∀ v ∈ xs, v.oneCell' = true) {k : Nat} (hk : Nat.min sl dl = k) :
    ∃ w', (execOp a.eval o).run P w = .ok (.value (.int .i64 k)) w' ∧ Own w0 w' L' := by
  subst hk
  have hmin : Nat.min sl dl ≤ sl := Nat.min_le_left _ _
  have htk : xs.take (Nat.min sl dl) = xs.take dl := by
    rw [List.take_eq_take_iff, hxl]
    simp only [Nat.min_def]; repeat' split
    all_goals omega
  have hlen : (xs.take dl).length = Nat.min sl dl := by rw [List.length_take, hxl, Nat.min_comm]
  obtain ⟨w', hr, ho'⟩ := H.putCells (P := P) hm (by rw [hlen]; exact hfit) (fun v hv => h1 v (List.mem_of_mem_take hv))
  have hf := run_firstCells_slAt (P := P) hs hxl hmin
  rw [htk] at hf
  have hlo : (Builtin.lenOf sv).run P w = .ok sl w := by
    rcases hs with ⟨⟨p, rfl⟩, rfl, _⟩ | ⟨b', off', cap', rfl, _⟩ <;> rfl
  refine ⟨w', ?_, ho'⟩
  obtain ⟨dst, op, ty, pos, aft, guard⟩ := o
  simp only at ho
  subst ho
  have e1 : execOp a.eval ⟨dst, .call { callee := .builtin .copy, args := #[d, s], argTypes := #[dT, sT] }, ty, pos, aft, guard⟩ = builtin .copy #[dT, sT] ty ((#[d, s] : Array Operand).map fun | .const _ => true | _ => false) ((#[d, s] : Array Operand).map a.eval) := rfl
  rw [e1]
  simp only [List.map_toArray, List.map_cons, List.map_nil, hd, hsv]
  simp [builtin, Builtin.copy_, Sem.run_bind, run_underlying hu, hlo, run_sizeOf hsz, hf, hr, goInt]

/-- a slice that is owned: nothing, or a block of its own -/
def SlOwn (e sz : Nat) (v : Value) (n : Nat) (xs : List Value) (Lv : List Ent) : Prop :=
  xs.length = n * sz ∧ ((v = .slice none 0 0 ∧ n = 0 ∧ Lv = []) ∨
  ∃ g cap cs, v = .slice (some ⟨g, 0, none⟩) n cap ∧ Lv = [(g, cs, e)] ∧ n ≤ cap ∧ cap ≤ maxLen ∧ cs.length = cap * sz ∧ cs.take (n * sz) = xs)

theorem SlOwn.nil (e sz : Nat) : SlOwn e sz (.slice none 0 0) 0 [] [] := ⟨by simp, Or.inl ⟨rfl, rfl, rfl⟩⟩

theorem SlOwn.slAt {e sz : Nat} {v : Value} {n : Nat} {xs : List Value} {Lv L : List Ent} (h : SlOwn e sz v n xs Lv) (H : Own w0 w (Lv ++ L)) : SlAt w v n xs := by
  obtain ⟨hl, h⟩ := h
  rcases h with ⟨rfl, rfl, rfl⟩ | ⟨g, cap, cs, rfl, rfl, hn, hm, hc, ht⟩
  · exact Or.inl ⟨⟨_, rfl⟩, rfl, by simpa using hl⟩
  · refine Or.inr ⟨g, 0, cap, rfl, ⟨hn, fun h => List.eq_nil_of_length_eq_zero (by rw [hl, h, Nat.zero_mul])⟩, fun i x hx => ?_⟩
    rw [H.cell (cs := cs) (T := e) (by simp), Nat.zero_add]
    rw [← ht, List.getElem?_take] at hx
    split at hx
    · exact hx
    · cases hx

/-- append of what a slice reads as onto an owned one -/
theorem rn_append {e sz by_ : Nat} (he : Elem P e sz by_) {Lv : List Ent} (H : Own w0 w (Lv ++ L)) {s x : Operand} {t : TypeId} (ho : o.op = .call { callee := .builtin .append, args := #[s, x], argTypes := #[t, t] })
    (ht : P.underlying t = some (.slice e)) {sv xv : Value} (hs : a.eval s = sv) (hx : a.eval x = xv) {n m : Nat} {xs ys : List Value} (hown : SlOwn e sz sv n xs Lv) (hsrc : SlAt w xv m ys) (hyl : ys.length = m * sz)
    (h1 : ∀ v ∈ ys, v.oneCell' = true) (hbytes : (n + m) * by_ ≤ 140737488355328) (h63 : n + m ≤ 140737488355328) (hd : ∀ k ∈ Lv.map (·.1), w0.heap.size ≤ k) :
    ∃ v' w' Lv', (execOp a.eval o).run P w = .ok (.value v') w' ∧ SlOwn e sz v' (n + m) (xs ++ ys) Lv' ∧ Own w0 w' (Lv' ++ L) ∧ (∀ k ∈ Lv'.map (·.1), w0.heap.size ≤ k) := by
  obtain ⟨⟨i, z, hi, hz, rfl, rfl, hzs⟩, hpos⟩ := he
  obtain ⟨dst, op, ty, pos, aft, guard⟩ := o
  simp only at ho
  subst ho
  have hrun : ∀ r, (Builtin.append_ #[t, t] ty #[sv, xv]).run P w = r → (execOp a.eval ⟨dst, .call { callee := .builtin .append, args := #[s, x], argTypes := #[t, t] }, ty, pos, aft, guard⟩).run P w = r.andThen fun v w => .ok (.value v) w := by
    intro r hr
    have e1 : execOp a.eval ⟨dst, .call { callee := .builtin .append, args := #[s, x], argTypes := #[t, t] }, ty, pos, aft, guard⟩ = builtin .append #[t, t] ty ((#[s, x] : Array Operand).map fun | .const _ => true | _ => false) ((#[s, x] : Array Operand).map a.eval) := rfl
    rw [e1]
    simp only [List.map_toArray, List.map_cons, List.map_nil, hs, hx, builtin, Sem.run_bind, hr]
    cases r <;> rfl
  have hmaxl : (140737488355328 : Nat) ≤ maxLen := by decide
  have hcapL : ∀ old, grownCap w (n + m) old e ≤ maxLen := fun old => grownCap_le_maxLen w (n + m) old e (by omega)
  have hcapG : ∀ old, n + m ≤ grownCap w (n + m) old e := fun old => grownCap_ge w (n + m) old e
  have hlen : (xs ++ ys).length = (n + m) * i.size := by rw [List.length_append, hown.1, hyl, Nat.add_mul]
  -- what a new row gives
  have fresh : ∀ old, ∃ Lv', SlOwn e i.size (.slice (some ⟨w.heap.size, 0, none⟩) (n + m) (grownCap w (n + m) old e)) (n + m) (xs ++ ys) Lv' ∧
      Own w0 (w.drew.alloc (.cells (xs.toArray ++ ys.toArray ++ Builtin.zeroCells z.cells (grownCap w (n + m) old e - (n + m))) e)) (Lv' ++ L) ∧ (∀ k ∈ Lv'.map (·.1), w0.heap.size ≤ k) := by
    intro old
    have hge := hcapG old
    have hle := hcapL old
    generalize grownCap w (n + m) old e = cp at hge hle
    have hz0 : (Builtin.zeroCells z.cells (cp - (n + m))).toList.length = (cp - (n + m)) * i.size := by
      rw [Array.length_toList, size_zeroCells, hzs]
    refine ⟨[(w.heap.size, xs ++ ys ++ (Builtin.zeroCells z.cells (cp - (n + m))).toList, e)], ⟨hlen, Or.inr ⟨_, _, _, rfl, rfl, hge, hle, ?_, ?_⟩⟩, ?_, ?_⟩
    · rw [List.length_append, hlen, hz0, ← Nat.add_mul]
      congr 1; omega
    · rw [← hlen]; exact List.take_left
    · have h2 := (H.drop hd).drew.alloc (xs ++ ys ++ (Builtin.zeroCells z.cells (cp - (n + m))).toList) e
      have e1 : (xs ++ ys ++ (Builtin.zeroCells z.cells (cp - (n + m))).toList).toArray = xs.toArray ++ ys.toArray ++ Builtin.zeroCells z.cells (cp - (n + m)) := by simp
      rw [e1] at h2
      exact h2
    · intro k hk
      simp at hk
      have := H.size
      omega
  have hown' := hown
  rcases hown.2 with ⟨rfl, rfl, rfl⟩ | ⟨g, cap, cs, rfl, rfl, hn, hm, hc, htk⟩
  · have hx0 : xs = [] := by simpa using hown.1
    subst hx0
    rcases hsrc with ⟨⟨p, rfl⟩, rfl, rfl⟩ | ⟨b, off, c, rfl, _, hcell⟩
    · refine ⟨.slice none 0 0, w, [], ?_, by simpa using SlOwn.nil e i.size, H, by simp⟩
      rw [hrun (.ok (.slice none 0 0) w)]
      · rfl
      · cases p <;> simp [Builtin.append_, run_underlying ht, sizeOf, typeInfo, hi, Builtin.lenOf, Builtin.firstCells, loadCells, loadCellsFrom]
    · by_cases hm0 : m = 0
      · subst hm0
        have hy0 : ys = [] := by simpa using hyl
        subst hy0
        refine ⟨.slice none 0 0, w, [], ?_, by simpa using SlOwn.nil e i.size, H, by simp⟩
        rw [hrun (.ok (.slice none 0 0) w)]
        · rfl
        · simp [Builtin.append_, run_underlying ht, sizeOf, typeInfo, hi, Builtin.lenOf, Builtin.firstCells, loadCells, loadCellsFrom]
      · obtain ⟨Lv', f1, f2, f3⟩ := fresh 0
        have hr := run_append_nil (P := P) w t ty e i z ht hi hz ⟨b, off, none⟩ m c ys hyl (fun j v hv => by rw [add_plain]; exact hcell j v hv) (by omega) (by omega) (by simp only [Nat.zero_add] at hbytes; omega)
        simp only [Nat.zero_add, List.nil_append] at f1 f2 ⊢
        refine ⟨_, _, Lv', hrun _ hr, f1, ?_, f3⟩
        simpa using f2
  · have hcell0 : ∀ j v, xs[j]? = some v → w.cell? ((⟨g, 0, none⟩ : Addr).add j) = some v := by
      intro j v hv
      rw [add_plain, Nat.zero_add, H.cell (cs := cs) (T := e) (by simp)]
      rw [← htk, List.getElem?_take] at hv
      split at hv
      · exact hv
      · cases hv
    rcases hsrc with ⟨⟨p, rfl⟩, rfl, rfl⟩ | ⟨b, off, c, rfl, _, hcell⟩
    · refine ⟨.slice (some ⟨g, 0, none⟩) n cap, w, [(g, cs, e)], ?_, by simpa using hown', H, hd⟩
      rw [hrun (.ok (.slice (some ⟨g, 0, none⟩) n cap) w)]
      · rfl
      · cases p <;> simp [Builtin.append_, run_underlying ht, sizeOf, typeInfo, hi, Builtin.lenOf, Builtin.firstCells, hn, storeCells, loadCells, loadCellsFrom]
    · by_cases hroom : n + m ≤ cap
      · have hfit : n * i.size + ys.length ≤ cs.length := by rw [hyl, hc, ← Nat.add_mul]; exact Nat.mul_le_mul_right _ hroom
        have hb := H.here g cs e (by simp)
        have hr := run_append_room (P := P) w t ty e i ht hi g n cap cs.toArray hb ⟨b, off, none⟩ m c ys hyl (fun j v hv => by rw [add_plain]; exact hcell j v hv) h1 hroom (by simpa using hfit)
        have hAt : At ([(g, cs, e)] ++ L) g cs e (cs.take (n * i.size) ++ ys ++ cs.drop (n * i.size + ys.length)) ([(g, cs.take (n * i.size) ++ ys ++ cs.drop (n * i.size + ys.length), e)] ++ L) := At.head
        have h2 := H.set hAt
        refine ⟨_, _, [(g, cs.take (n * i.size) ++ ys ++ cs.drop (n * i.size + ys.length), e)], hrun _ hr, ⟨hlen, Or.inr ⟨g, cap, _, rfl, rfl, hroom, hm, ?_, ?_⟩⟩, by simpa using h2, by simpa using hd⟩
        · simp only [List.length_append, List.length_take, List.length_drop]; omega
        · rw [htk, ← hlen]; exact List.take_left
      · obtain ⟨Lv', f1, f2, f3⟩ := fresh cap
        have hr := run_append_grow (P := P) w t ty e i z ht hi hz ⟨g, 0, none⟩ n cap xs hown.1 hcell0 ⟨b, off, none⟩ m c ys hyl (fun j v hv => by rw [add_plain]; exact hcell j v hv) (by omega) (by omega) (growslice_fits (by omega) hbytes)
        exact ⟨_, _, Lv', hrun _ hr, f1, f2, f3⟩

/-- a slice literal -/
theorem rn_buildSlice (H : Own w0 w L) {t e : TypeId} {len : Nat} {parts : Array (Nat × Operand)} (ho : o.op = .buildSlice t len parts) {cs : List Value}
    (hf : ∀ w', (Instr.buildSlice t len (parts.map fun (i, x) => (i, a.eval x))).run P w' = .ok (.slice (some ⟨w'.heap.size, 0, none⟩) len len) (w'.alloc (.cells cs.toArray e))) :
    ∃ n w', (execOp a.eval o).run P w = .ok (.value (.slice (some ⟨n, 0, none⟩) len len)) w' ∧ w0.heap.size ≤ n ∧ Own w0 w' ((n, cs, e) :: L) := by
  refine ⟨w.heap.size, w.alloc (.cells cs.toArray e), ?_, H.size, H.alloc cs e⟩
  unfold execOp
  simp only [ho, Sem.run_bind, hf w, Result.andThen_ok]
  rfl

/-- an operation that yields a slice whose place is known by a property alone, and does not hang on the world -/
theorem st_slEx (hg : o.guard = none) {m : Nat} {R : Option Addr → Nat → Prop} (hrun : ∃ p c, (∀ w', (execOp a.eval o).run P w' = .ok (.value (.slice p m c)) w') ∧ R p c)
    (h : ∀ p c, R p c → wpList P ops Q rest (a.put o.dst (.slice p m c)) w) : wpList P ops Q (o :: rest) a w := by
  obtain ⟨p, c, hrun, hr⟩ := hrun
  exact st_val hg (hrun w) (h p c hr)

theorem qd_slEx {K : Act → Prop} (hg : o.guard = none) {m : Nat} {R : Option Addr → Nat → Prop} (hrun : ∃ p c, (∀ w', (execOp a.eval o).run P w' = .ok (.value (.slice p m c)) w') ∧ R p c)
    (h : ∀ p c, R p c → wpQuiet P ops (fun w' => ∃ m, w' = w.drewN m) K rest (a.put o.dst (.slice p m c))) : wpQuiet P ops (fun w' => ∃ m, w' = w.drewN m) K (o :: rest) a := by
  obtain ⟨p, c, hrun, hr⟩ := hrun
  exact qd_val hg (fun m => hrun _) (h p c hr)

/-- the part of a slice of one-cell elements -/
theorem sub_val {t : TypeId} {e : TypeId} (hu : P.underlying t = some (.slice e)) (hsz : (P.info? e).map (·.size) = some 1) {sv : Value} {n : Nat} {xs : List Value} (hs : SlAt w sv n xs) (_hxl : xs.length = n)
    {lo hi : Option Value} {l h : Nat} (hl : BoundIs lo 0 l) (hh : BoundIs hi n h) (h1 : l ≤ h) (h2 : h ≤ n) :
    ∃ v', (∀ w', (Instr.sliceAt t sv lo hi none).run P w' = .ok v' w') ∧ SlAt w v' (h - l) ((xs.drop l).take (h - l)) ∧ (∀ k, blk v' = some k → blk sv = some k) := by
  have hb : ∀ (sl cap : Nat) w', sl = n → n ≤ cap → (Instr.sliceBounds true sl cap lo hi none).run P w' = .ok (l, h, cap) w' := by
    intro sl cap w' hsl hcap
    subst hsl
    cases hl with
    | no =>
      cases hh with
      | no => rfl
      | yes h' =>
        subst h'
        simp [Instr.sliceBounds, Instr.sliceBound, asIntOf]
        omega
    | yes h' =>
      subst h'
      cases hh with
      | no =>
        simp [Instr.sliceBounds, Instr.sliceBound, asIntOf]
        omega
      | yes h'' =>
        subst h''
        have h5 : h ≤ cap := by omega
        simp [Instr.sliceBounds, Instr.sliceBound, asIntOf, h1, h5]
  rcases hs with ⟨⟨p, rfl⟩, rfl, rfl⟩ | ⟨b, off, cap, rfl, ⟨hn, hn0⟩, hc⟩
  · refine ⟨.slice p 0 0, fun w' => ?_, Or.inl ⟨⟨p, rfl⟩, by omega, by simp⟩, fun k hk => hk⟩
    have hl0 : l = 0 := by omega
    have hh0 : h = 0 := by omega
    have := hb 0 0 w' rfl (Nat.le_refl _)
    cases p <;> simp [Instr.sliceAt, Instr.slice, Sem.run_bind, run_underlying hu, this, run_sizeOf hsz, hl0, hh0]
  · refine ⟨.slice (some ⟨b, if cap = l then off else off + l, none⟩) (h - l) (cap - l), fun w' => ?_, ?_, fun k hk => by have h2 := blk_some hk; simp only [blk]; rw [if_neg (by omega)]; exact congrArg some h2.1⟩
    · have := hb n cap w' rfl hn
      simp only [Instr.sliceAt, Instr.slice, Sem.run_bind, run_underlying hu, this, run_sizeOf hsz, Result.andThen_ok, Sem.run_pure, Option.map, add_plain, Nat.mul_one]
      split <;> rfl
    · refine Or.inr ⟨b, _, cap - l, rfl, ⟨by omega, fun h0 => by rw [h0, List.take_zero]⟩, fun i x hx => ?_⟩
      rw [List.getElem?_take] at hx
      split at hx
      · rw [List.getElem?_drop] at hx
        have hil : l + i < xs.length := (List.getElem?_eq_some_iff.1 hx).1
        have hne : ¬ cap = l := by omega
        rw [if_neg hne, Nat.add_assoc]
        exact hc (l + i) x hx
      · cases hx

theorem rn_sub {t : TypeId} {x : Operand} {lo hi : Option Operand} (ho : o.op = .slice t x lo hi none) {e : TypeId} (hu : P.underlying t = some (.slice e)) (hsz : (P.info? e).map (·.size) = some 1) {sv : Value} (hx : a.eval x = sv) {n : Nat} {xs : List Value}
    (hs : SlAt w sv n xs) (hxl : xs.length = n) {l h : Nat} (hl : BoundIs (lo.map a.eval) 0 l) (hh : BoundIs (hi.map a.eval) n h) (h1 : l ≤ h) (h2 : h ≤ n) {m : Nat} (hm : h - l = m) :
    ∃ p c, (∀ w', (execOp a.eval o).run P w' = .ok (.value (.slice p m c)) w') ∧ (SlAt w (.slice p m c) m ((xs.drop l).take m) ∧ (∀ k, blk (Value.slice p m c) = some k → blk sv = some k)) := by
  subst hm
  obtain ⟨v', g1, g2, g3⟩ := sub_val hu hsz hs hxl hl hh h1 h2
  obtain ⟨p, c, rfl⟩ : ∃ p c, v' = .slice p (h - l) c := by
    rcases g2 with ⟨⟨p, rfl⟩, h0, _⟩ | ⟨b, off, cap, rfl, _, _⟩
    · exact ⟨_, 0, by rw [h0]⟩
    · exact ⟨_, _, rfl⟩
  refine ⟨p, c, fun w' => ?_, g2, g3⟩
  unfold execOp
  simp only [ho, hx, Sem.run_bind, Option.map_none, g1 w', Result.andThen_ok]
  rfl

/-- a block that holds what it held at first need not be named -/
theorem Own.unturned {L1 L2 : List Ent} {b : Nat} {cs : List Value} {T : TypeId} (h : Own w0 w (L1 ++ (b, cs, T) :: L2)) (h0 : w0.heap[b]? = some (.cells cs.toArray T (0, 0))) : Own w0 w (L1 ++ L2) := by
  refine ⟨h.os, h.tape, h.output, h.size, fun k hk hn => ?_, ?_, fun b' cs' T' hm => h.here b' cs' T' ?_⟩
  · by_cases e : k = b
    · subst e
      rw [h0]; exact h.here k cs T (by simp)
    · refine h.keep k hk ?_
      simp only [List.map_append, List.map_cons, List.mem_append, List.mem_cons, not_or] at hn ⊢
      exact ⟨hn.1, e, hn.2⟩
  · have := h.nodup
    simp only [List.map_append, List.map_cons, List.nodup_append, List.nodup_cons] at this ⊢
    exact ⟨this.1, this.2.1.2, fun x hx y hy => this.2.2 x hx y (List.mem_cons_of_mem _ hy)⟩
  · simp only [List.mem_append, List.mem_cons] at hm ⊢
    rcases hm with hm | hm
    · exact Or.inl hm
    · exact Or.inr (Or.inr hm)

/-- the first of the blocks has turned in a call -/
theorem Own.call1 {w' : World} {b : Nat} {cs cs' : List Value} {T T' : TypeId} (h : Own w0 w ((b, cs, T) :: L)) (hu : Own w w' [(b, cs', T')]) : Own w0 w' ((b, cs', T') :: L) :=
  Own.call (L1 := [(b, cs, T)]) (L1' := [(b, cs', T')]) h ⟨hu, by simp⟩ (by simp)

theorem Own.sub1 {b : Nat} {cs : List Value} {T : TypeId} (h : Own w0 w L) (hm : (b, cs, T) ∈ L) : Own w w [(b, cs, T)] := Own.one (h.here b cs T hm)

theorem BytesAt.cell {v : Value} {bs : List Int} (h : BytesAt w v bs) : ((∃ p, v = .slice p 0 0) ∧ bs = []) ∨ ∃ b off cap, v = .slice (some ⟨b, off, none⟩) bs.length cap ∧ bs.length ≤ cap ∧ ∀ i, i < bs.length → w.cell? ⟨b, off + i, none⟩ = some (.int .u8 (bs[i]?.getD 0)) := by
  rcases h with ⟨h1, h2, h3⟩ | ⟨b, off, cap, h1, h2, h3⟩
  · exact Or.inl ⟨h1, List.eq_nil_of_length_eq_zero h2⟩
  · exact Or.inr ⟨b, off, cap, h1, h2.1, fun i hi => h3 i _ (ints_get hi)⟩

end
end Go.Proofs.Ytokichlmgepdpaa

/-! A region that draws its order and whose operations leave all that was there as it was (they may make blocks): some of its temporaries are known by their value, the others by an assertion; one obligation an operation. No dump, no condition. -/
namespace Go.Proofs.Ytokichlmgepdpaa
open Go.RowKit

/-- what is known of a temporary -/
inductive Sp
  | val (v : Value)
  | rel (A : World → Value → Prop)

def Sp.asn : Sp → Asn
  | .val v => fun _ v' => v' = v
  | .rel A => A

def Mono (A : World → Value → Prop) : Prop := ∀ w1 w2 v, Own w1 w2 [] → A w1 v → A w2 v

theorem Sp.mono_val (v : Value) : Mono (Sp.val v).asn := fun _ _ _ _ h => h

def wpSp (P : Program) (ops : Array Oper) (w : World) (K : (World → (Nat → Prop) → Prop) → Act → Prop) : List Sp → List Oper → (World → (Nat → Prop) → Prop) → Act → Prop
  | [], _, F, a => K F a
  | .val v :: sps, o :: rest, F, a => (∀ w', Own w w' [] → F w' (fun s => s ∈ o.looksAt ops) → if Region.wanted o (yielded ops a.tmps) then YieldsTo P o a w' (fun v' w'' => v' = v ∧ Own w' w'' []) else undef = v) ∧ wpSp P ops w K sps rest F (a.put o.dst v)
  | .rel A :: sps, o :: rest, F, a => Mono A ∧ Region.wanted o (yielded ops a.tmps) = true ∧ (∀ w', Own w w' [] → F w' (fun s => s ∈ o.looksAt ops) → YieldsTo P o a w' (fun v w'' => Own w' w'' [] ∧ A w'' v)) ∧
      ∀ v, wpSp P ops w K sps rest (fun w' S => F w' S ∧ ∀ d, o.dst = some d → S d → A w' v) (a.put o.dst v)
  | _ :: _, [], _, _ => False

/-- each of the first n operations writes a temporary, each another one -/
def apartB (ops : Array Oper) (n : Nat) : Bool := ((List.range n).all fun j => (ops[j]?.bind (·.dst)).isSome) && ((List.range n).all fun j => (List.range j).all fun i => ops[j]?.bind (·.dst) != ops[i]?.bind (·.dst))

section
variable {P : Program} {ops : Array Oper}

theorem apartB_some {n j : Nat} (h : apartB ops n = true) (hj : j < n) : ∃ d, ops[j]?.bind (·.dst) = some d := by
  simp only [apartB, Bool.and_eq_true, List.all_eq_true, List.mem_range] at h
  exact Option.isSome_iff_exists.1 (h.1 j hj)

theorem apartB_ne {n i j : Nat} (h : apartB ops n = true) (hj : j < n) (hi : i < n) (hij : i ≠ j) : ops[j]?.bind (·.dst) ≠ ops[i]?.bind (·.dst) := by
  simp only [apartB, Bool.and_eq_true, List.all_eq_true, List.mem_range, bne_iff_ne] at h
  rcases Nat.lt_or_gt_of_ne hij with h1 | h1
  · exact h.2 j hj i h1
  · exact (h.2 i hi j h1).symm

theorem asnAt_of {F0 A : Nat → Asn} {n d j : Nat} {w : World} {x : Value} (ha : apartB ops n = true) (hd : ops[j]?.bind (·.dst) = some d) : ∀ k, k ≤ n → j < k → asnAt ops F0 A k d w x → A j w x
  | 0, _, h, _ => by omega
  | k + 1, hk, hjk, h => by
    simp only [asnAt] at h
    split at h
    · rename_i hkd
      by_cases e : j = k
      · subst e; exact h
      · exact absurd (hkd.trans hd.symm) (apartB_ne ha (j := k) (i := j) (by omega) (by omega) e)
    · rename_i hkd
      have : j ≠ k := fun e => hkd (by rw [← e]; exact hd)
      exact asnAt_of ha hd k (by omega) (by omega) h

/-- The frame in which the temporaries of the first i operations are these. -/
theorem asnAt_frame' {vals : Nat → Value} {A : Nat → Asn} {a : Act} {s : Nat} {w : World} {x : Value} : ∀ k, (∀ i o d, i < k → ops[i]? = some o → o.dst = some d → d < a.tmps.size) →
    (∀ i, i < k → (ops[i]?).bind (·.dst) = some s → A i w x → x = vals i) →
    asnAt ops (fun s _ v => v = a.tmps.getD s undef) A k s w x → x = (frameAt ops vals a k).tmps.getD s undef
  | 0, _, _, h => h
  | k + 1, hN, hv, h => by
    simp only [asnAt] at h
    simp only [frameAt]
    split at h
    · rename_i hd
      have hx := hv k (by omega) hd h
      rw [hd]
      cases ho : ops[k]? with
      | none => simp [ho] at hd
      | some o =>
        simp only [ho, Option.bind_some] at hd
        have hlt := hN k o s (by omega) ho hd
        have hsz := frameAt_size (ops := ops) (vals := vals) (a := a) k
        simp [Act.put, hsz, hlt, hx]
    · rename_i hd
      have ih := asnAt_frame' (vals := vals) (a := a) k (fun i o d hi => hN i o d (by omega)) (fun i hi => hv i (by omega)) h
      rw [ih]
      cases hb : (ops[k]?).bind (·.dst) with
      | none => rfl
      | some d =>
        have hne : d ≠ s := fun e => hd (by rw [hb, e])
        simp [Act.put, Array.getElem?_setIfInBounds_ne hne]

theorem wpSp_at {w : World} {K : (World → (Nat → Prop) → Prop) → Act → Prop} {a : Act} (vals : Nat → Value) : ∀ (i : Nat) (sps : List Sp) (k : Nat) (F : World → (Nat → Prop) → Prop), (∀ j v, sps[j]? = some (.val v) → vals (k + j) = v) →
    wpSp P ops w K sps (ops.toList.drop k) F (frameAt ops vals a k) → i ≤ sps.length →
    ∃ F', (∀ w' S, F w' S → (∀ j A d, j < i → sps[j]? = some (.rel A) → ops[k + j]?.bind (·.dst) = some d → S d → A w' (vals (k + j))) → F' w' S) ∧
      wpSp P ops w K (sps.drop i) (ops.toList.drop (k + i)) F' (frameAt ops vals a (k + i))
  | 0, sps, k, F, _, h, _ => ⟨F, fun _ _ h _ => h, by simpa using h⟩
  | i + 1, [], k, F, _, _, hi => by simp at hi
  | i + 1, s :: sps, k, F, hv, h, hi => by
    cases hl : ops.toList.drop k with
    | nil => rw [hl] at h; cases s <;> exact h.elim
    | cons o rest =>
      have ho : ops[k]? = some o := by
        have := congrArg (fun l => l[0]?) hl
        simpa using this
      have hrest : rest = ops.toList.drop (k + 1) := by
        have := congrArg List.tail hl
        simpa using this.symm
      have hfr : ∀ v, vals k = v → (frameAt ops vals a k).put o.dst v = frameAt ops vals a (k + 1) := by
        intro v hvk
        simp only [frameAt, ho, Option.bind_some, hvk]
      have hdr : (s :: sps).drop (i + 1) = sps.drop i := rfl
      rw [hl] at h
      have hv2 : ∀ j v, sps[j]? = some (.val v) → vals (k + 1 + j) = v := fun j v hj => by
        have := hv (j + 1) v (by simpa using hj)
        rwa [show k + (j + 1) = k + 1 + j by omega] at this
      cases s with
      | val v =>
        simp only [wpSp] at h
        obtain ⟨_, h2⟩ := h
        have hvk : vals k = v := hv 0 v (by simp)
        rw [hfr v hvk, hrest] at h2
        obtain ⟨F', f1, f2⟩ := wpSp_at vals i sps (k + 1) F hv2 h2 (by simpa using hi)
        refine ⟨F', fun w' S hF hA => f1 w' S hF fun j A d hj hs hd hS => ?_, ?_⟩
        · have := hA (j + 1) A d (by omega) (by simpa using hs) (by rw [show k + (j + 1) = k + 1 + j by omega]; exact hd) hS
          rwa [show k + (j + 1) = k + 1 + j by omega] at this
        · rw [hdr, show k + (i + 1) = k + 1 + i by omega]; exact f2
      | rel A0 =>
        simp only [wpSp] at h
        obtain ⟨_, _, _, h2⟩ := h
        have h2 := h2 (vals k)
        rw [hfr _ rfl, hrest] at h2
        obtain ⟨F', f1, f2⟩ := wpSp_at vals i sps (k + 1) _ hv2 h2 (by simpa using hi)
        refine ⟨F', fun w' S hF hA => f1 w' S ⟨hF, fun d hd hS => ?_⟩ fun j A d hj hs hd hS => ?_, ?_⟩
        · exact hA 0 A0 d (by omega) (by simp) (by simpa [ho] using hd) hS
        · have := hA (j + 1) A d (by omega) (by simpa using hs) (by rw [show k + (j + 1) = k + 1 + j by omega]; exact hd) hS
          rwa [show k + (j + 1) = k + 1 + j by omega] at this
        · rw [hdr, show k + (i + 1) = k + 1 + i by omega]; exact f2

/-- two frames that agree on what an operation looks at -/
theorem wanted_congr {o : Oper} {a a' : Act} (heq : ∀ s ∈ o.looksAt ops, a'.tmps.getD s undef = a.tmps.getD s undef) : Region.wanted o (yielded ops a'.tmps) = Region.wanted o (yielded ops a.tmps) := by
  unfold Region.wanted
  cases hg : o.guard with
  | none => rfl
  | some gw =>
    obtain ⟨g, want⟩ := gw
    have : yielded ops a'.tmps g = yielded ops a.tmps g := by
      unfold yielded
      cases ht : (ops[g]?).bind (·.dst) with
      | none => rfl
      | some t =>
        have h1 := heq t (by simp [Oper.looksAt, hg, ht])
        simp only [Option.bind_some]
        simp only [Array.getD_eq_getD_getElem?] at h1
        cases hx : a'.tmps[t]? with
        | none =>
          cases hy : a.tmps[t]? with
          | none => rfl
          | some y =>
            rw [hx, hy] at h1
            simp only [Option.getD_none, Option.getD_some] at h1
            rw [← h1]; rfl
        | some x =>
          cases hy : a.tmps[t]? with
          | none =>
            rw [hx, hy] at h1
            simp only [Option.getD_none, Option.getD_some] at h1
            rw [h1]; rfl
          | some y =>
            rw [hx, hy] at h1
            simp only [Option.getD_some] at h1
            rw [h1]
    simp only [this]

theorem region_grow {id : Nat} {l : List Oper} {Q : Exit → Act → World → Prop} {a : Act} {w : World} (n : Nat) (hm : P.follows .mixedOrders = true) (hB : (regB l.toArray n && Region.noSelect l.toArray && apartB l.toArray n) = true) (hN : dstsB l.toArray n a.tmps.size = true)
    (sps : List Sp) (hl : sps.length = n)
    (h : wpSp P l.toArray w (fun F a' => ∀ w', Own w w' [] → F w' (fun _ => True) → wpList P l.toArray Q (l.drop n) a' w') sps l (fun _ _ => True) a) : (Code.region id l.toArray true).wp P Q a w := by
  simp only [Bool.and_eq_true] at hB
  obtain ⟨⟨hB, hsel⟩, hap⟩ := hB
  have hN' := dstsB_spec hN
  have h' : wpSp P l.toArray w (fun F a' => ∀ w', Own w w' [] → F w' (fun _ => True) → wpList P l.toArray Q (l.drop n) a' w') sps (l.toArray.toList.drop 0) (fun _ _ => True) (frameAt l.toArray (fun _ => undef) a 0) := by simpa [frameAt] using h
  have hat : ∀ (vals : Nat → Value), (∀ j v, sps[j]? = some (.val v) → vals j = v) → ∀ i, i ≤ n → _ := fun vals hv i hi =>
    wpSp_at (P := P) (ops := l.toArray) (w := w) (a := a) vals i sps 0 (fun _ _ => True) (fun j v hj => by rw [Nat.zero_add]; exact hv j v hj) h' (by omega)
  -- the values that go with a frame
  let A : Nat → Asn := fun i => match sps[i]? with | some s => s.asn | none => fun _ _ => True
  let vof : Act → Nat → Value := fun a' j => match sps[j]? with | some (.val v) => v | _ => match (l.toArray[j]?).bind (·.dst) with | some d => a'.tmps.getD d undef | none => undef
  have hvof : ∀ a' j v, sps[j]? = some (.val v) → vof a' j = v := fun a' j v hj => by simp only [vof, hj]
  have hfr : ∀ (a' : Act) (w' : World) (i s : Nat), i ≤ n → asnAt l.toArray (fun s _ v => v = a.tmps.getD s undef) A i s w' (a'.tmps.getD s undef) → a'.tmps.getD s undef = (frameAt l.toArray (vof a') a i).tmps.getD s undef := by
    intro a' w' i s hi hasn
    refine asnAt_frame' i (fun j o d hj => hN' j o d (by omega)) (fun j hj hd hA => ?_) hasn
    have hjs : j < sps.length := by omega
    simp only [A, List.getElem?_eq_getElem hjs] at hA
    simp only [vof, List.getElem?_eq_getElem hjs, hd]
    cases hs : sps[j] with
    | val v => rw [hs] at hA; exact hA
    | rel A0 => rfl
  have hF : ∀ (a' : Act) (w' : World) (i : Nat) (S : Nat → Prop), i ≤ n → (∀ s, S s → asnAt l.toArray (fun s _ v => v = a.tmps.getD s undef) A i s w' (a'.tmps.getD s undef)) →
      ∀ j A0 d, j < i → sps[j]? = some (.rel A0) → l.toArray[0 + j]?.bind (·.dst) = some d → S d → A0 w' (vof a' (0 + j)) := by
    intro a' w' i S hi hS j A0 d hj hs hd hSd
    rw [Nat.zero_add] at hd ⊢
    have h1 := asnAt_of (A := A) hap hd i hi hj (hS d hSd)
    simp only [A, hs] at h1
    simp only [vof, hs, hd]
    exact h1
  have hmono : ∀ k, k < n → Mono (A k) := by
    intro k hk
    have hks : k < sps.length := by omega
    obtain ⟨F', _, f2⟩ := hat (vof a) (hvof a) k (by omega)
    simp only [A, List.getElem?_eq_getElem hks]
    rw [List.drop_eq_getElem_cons hks] at f2
    cases hs : sps[k] with
    | val v => exact Sp.mono_val v
    | rel A0 =>
      rw [hs] at f2
      cases hd : l.toArray.toList.drop (0 + k) with
      | nil => rw [hd] at f2; exact f2.elim
      | cons o rest => rw [hd] at f2; exact f2.1
  refine region_rel n hm hB hN' (fun _ w' => Own w w' []) A ((Own.refl w).drew) ?_ ?_
  · intro i o hi ho listed a' w' _ _ _ hJ hasn
    have his : i < sps.length := by omega
    have hio : i < l.toArray.toList.length := by have := (Array.getElem?_eq_some_iff.1 ho).1; simpa using this
    have heq : ∀ s ∈ o.looksAt l.toArray, a'.tmps.getD s undef = (frameAt l.toArray (vof a') a i).tmps.getD s undef := fun s hs => hfr a' w' i s (by omega) (hasn s hs)
    obtain ⟨F', f1, f2⟩ := hat (vof a') (hvof a') i (by omega)
    have hFw := f1 w' (fun s => s ∈ o.looksAt l.toArray) trivial (hF a' w' i _ (by omega) hasn)
    have hsel' := Region.noSelect_spec hsel
    have hexec : execOp a'.eval o = execOp (frameAt l.toArray (vof a') a i).eval o := execOp_congr o (fun cs b => hsel' i o cs b ho) (fun x hx => by
      cases x with
      | tmp t => exact heq t (List.mem_append_left _ (List.mem_filterMap.2 ⟨.tmp t, by simpa using hx, rfl⟩))
      | _ => rfl)
    rw [wanted_congr heq]
    rw [Nat.zero_add, List.drop_eq_getElem_cons his, List.drop_eq_getElem_cons hio] at f2
    have hoe : l.toArray.toList[i] = o := by
      have := (Array.getElem?_eq_some_iff.1 ho).2
      simpa using this
    rw [hoe] at f2
    obtain ⟨d, hd⟩ := apartB_some hap hi
    have hod : o.dst = some d := by simpa [ho] using hd
    have hdlt : d < (frameAt l.toArray (vof a') a i).tmps.size := by rw [frameAt_size]; exact hN' i o d hi ho hod
    simp only [A, List.getElem?_eq_getElem his]
    cases hs : sps[i] with
    | val v =>
      rw [hs] at f2
      obtain ⟨f2, _⟩ := f2
      have hq := f2 w' hJ hFw
      split at hq
      · rename_i hw
        rw [if_pos hw]
        unfold YieldsTo at hq ⊢
        rw [hexec]
        generalize (execOp (frameAt l.toArray (vof a') a i).eval o).run P w' = r at *
        cases r with
        | halt x w'' => exact hq.elim
        | ok nx w'' =>
          cases nx <;> simp only at hq ⊢
          case value x => exact ⟨hq.1, hJ.trans hq.2, fun k hk _ _ v h => hmono k hk _ _ _ hq.2 h⟩
          case skip => exact ⟨hq.1, hJ.trans hq.2, fun k hk _ _ v h => hmono k hk _ _ _ hq.2 h⟩
          case enter f args => exact hq.mono fun e w3 ⟨u, he, h1, h2⟩ => ⟨u, he, h1, hJ.trans h2, fun k hk _ _ v h => hmono k hk _ _ _ h2 h⟩
      · rename_i hw
        rw [if_neg hw]
        exact ⟨hq, hJ⟩
    | rel A0 =>
      rw [hs] at f2
      obtain ⟨_, hw, f3, _⟩ := f2
      rw [if_pos hw]
      have hy := f3 w' hJ hFw
      unfold YieldsTo at hy ⊢
      rw [hexec]
      generalize (execOp (frameAt l.toArray (vof a') a i).eval o).run P w' = r at *
      cases r with
      | halt x w'' => exact hy.elim
      | ok nx w'' =>
        cases nx <;> simp only at hy ⊢
        case value x => exact ⟨hy.2, hJ.trans hy.1, fun k hk _ _ v h => hmono k hk _ _ _ hy.1 h⟩
        case skip => exact ⟨hy.2, hJ.trans hy.1, fun k hk _ _ v h => hmono k hk _ _ _ hy.1 h⟩
        case enter f args => exact hy.mono fun e w3 ⟨v, he, h1, h2⟩ => ⟨v, he, h2, hJ.trans h1, fun k hk _ _ v h => hmono k hk _ _ _ h1 h⟩
  · intro listed a' w' _ hJ hs hd hasn
    have : a' = frameAt l.toArray (vof a') a n := by
      have h1 := frameAt_size (ops := l.toArray) (vals := vof a') (a := a) n
      have h2 := frameAt_defers (ops := l.toArray) (vals := vof a') (a := a) n
      have h3 : a'.tmps = (frameAt l.toArray (vof a') a n).tmps := by
        apply Array.ext
        · omega
        · intro j hj1 hj2
          have := hfr a' w' n j (Nat.le_refl _) (hasn j)
          simpa [hj1, hj2] using this
      generalize frameAt l.toArray (vof a') a n = fr at h2 h3
      obtain ⟨t1, d1⟩ := a'
      obtain ⟨t3, d3⟩ := fr
      simp only at h2 h3 hd
      rw [h3, hd, h2]
    obtain ⟨F', f1, f2⟩ := hat (vof a') (hvof a') n (Nat.le_refl _)
    have hFw := f1 w' (fun _ => True) trivial (hF a' w' n _ (Nat.le_refl _) (fun s _ => hasn s))
    have hd0 : sps.drop n = [] := List.drop_of_length_le (by omega)
    rw [hd0] at f2
    simp only [wpSp] at f2
    rw [Nat.zero_add, ← this] at f2
    simpa using f2 w' hJ hFw

theorem yieldsTo_val' {o : Oper} {a : Act} {w w' : World} {R : Value → World → Prop} {v : Value} (hrun : (execOp a.eval o).run P w = .ok (.value v) w') (h : R v w') : YieldsTo P o a w R := by
  unfold YieldsTo; rw [hrun]; exact h

/-! ### The steps -/
variable {w : World} {K : (World → (Nat → Prop) → Prop) → Act → Prop} {sps : List Sp} {o : Oper} {rest : List Oper} {F : World → (Nat → Prop) → Prop} {a : Act} {v : Value}

/-- an operation that hangs on no world: it is walked as in a quiet region -/
theorem sp_val (h1 : ∀ w', Own w w' [] → F w' (fun s => s ∈ o.looksAt ops) → wpQuiet P ops (fun w'' => w'' = w') (fun a' => a' = a.put o.dst v) [o] a) (hd : ∃ d, o.dst = some d ∧ d < a.tmps.size)
    (h2 : wpSp P ops w K sps rest F (a.put o.dst v)) : wpSp P ops w K (.val v :: sps) (o :: rest) F a := by
  refine ⟨fun w' hw' hF => ?_, h2⟩
  obtain ⟨d, hd1, hd2⟩ := hd
  have hput : ∀ u, a.put o.dst u = a.put o.dst v → u = v := by
    intro u hu
    have := congrArg (fun x : Act => x.tmps[d]?) hu
    simpa [Act.put, hd1, hd2] using this
  have hq := h1 w' hw' hF
  unfold wpQuiet at hq
  split at hq
  · rename_i hw
    rw [if_pos hw]
    obtain ⟨u, hu1, hu2⟩ := hq
    obtain rfl := hput u hu2
    have hq' := hu1 w' rfl
    unfold Oper.quietAt at hq'
    unfold YieldsTo
    generalize (execOp a.eval o).run P w' = r at *
    cases r with
    | halt x w'' => exact hq'.elim
    | ok nx w'' =>
      cases nx <;> simp only [Oper.quietUpon] at hq' ⊢
      case value x => obtain ⟨rfl, rfl⟩ := hq'; exact ⟨rfl, Own.refl _⟩
      case skip => obtain ⟨rfl, hv⟩ := hq'; exact ⟨hv.symm, Own.refl _⟩
      case enter f args =>
        obtain ⟨rfl, hc⟩ := hq'
        exact hc.mono fun e w3 ⟨he, hc3⟩ => ⟨_, he, rfl, by rw [hc3]; exact Own.refl _⟩
  · rename_i hw
    rw [if_neg hw]
    exact hput _ hq

/-- an operation whose value is known by a run lemma -/
theorem sp_run (hw : Region.wanted o (yielded ops a.tmps) = true) (hrun : ∀ w', Own w w' [] → F w' (fun s => s ∈ o.looksAt ops) → (execOp a.eval o).run P w' = .ok (.value v) w')
    (h2 : wpSp P ops w K sps rest F (a.put o.dst v)) : wpSp P ops w K (.val v :: sps) (o :: rest) F a := by
  refine ⟨fun w' hw' hF => ?_, h2⟩
  rw [if_pos hw]
  exact yieldsTo_val (hrun w' hw' hF) ⟨rfl, Own.refl _⟩

theorem sp_skip (hw : Region.wanted o (yielded ops a.tmps) = false) (h2 : wpSp P ops w K sps rest F (a.put o.dst undef)) : wpSp P ops w K (.val undef :: sps) (o :: rest) F a := by
  refine ⟨fun w' hw' hF => ?_, h2⟩
  rw [if_neg (by rw [hw]; exact Bool.false_ne_true)]

/-- a call whose value is known -/
theorem sp_call (hw : Region.wanted o (yielded ops a.tmps) = true) {f : Nat} {args : Array Value} (hrun : ∀ w', (execOp a.eval o).run P w' = .ok (.enter f args) w')
    (h1 : ∀ w', Own w w' [] → F w' (fun s => s ∈ o.looksAt ops) → Calls P f args w' fun e w'' => e = .returned v ∧ Own w' w'' [])
    (h2 : wpSp P ops w K sps rest F (a.put o.dst v)) : wpSp P ops w K (.val v :: sps) (o :: rest) F a := by
  refine ⟨fun w' hw' hF => ?_, h2⟩
  rw [if_pos hw]
  unfold YieldsTo
  rw [hrun w']
  exact (h1 w' hw' hF).mono fun e w'' ⟨he, h⟩ => ⟨_, he, rfl, h⟩

/-- a call of a function that the source names -/
theorem sp_callN (hw : Region.wanted o (yielded ops a.tmps) = true) {f : Nat} {fn : Func} {xs : Array Operand} {ats : Array TypeId} {args : Array Value} (hop : o.op = .call { callee := .value (.func f), args := xs, argTypes := ats }) (hargs : xs.map a.eval = args)
    (hf : P.funcs[f]? = some fn) (hname : (fn.name == "runtime.NumGoroutine") = false) (hb : fn.body.isNone = false)
    (h1 : ∀ w', Own w w' [] → F w' (fun s => s ∈ o.looksAt ops) → Calls P f args w' fun e w'' => e = .returned v ∧ Own w' w'' [])
    (h2 : wpSp P ops w K sps rest F (a.put o.dst v)) : wpSp P ops w K (.val v :: sps) (o :: rest) F a :=
  sp_call hw (fun w' => by rw [Conc.run_call_body hop hf hname hb, hargs]) h1 h2

/-- an operation whose value is known by an assertion -/
theorem sp_rel {A : World → Value → Prop} (hm : Mono A) (hw : Region.wanted o (yielded ops a.tmps) = true) (h1 : ∀ w', Own w w' [] → F w' (fun s => s ∈ o.looksAt ops) → YieldsTo P o a w' (fun v w'' => Own w' w'' [] ∧ A w'' v))
    (h2 : ∀ v, wpSp P ops w K sps rest (fun w' S => F w' S ∧ ∀ d, o.dst = some d → S d → A w' v) (a.put o.dst v)) : wpSp P ops w K (.rel A :: sps) (o :: rest) F a := ⟨hm, hw, h1, h2⟩

/-- reads as these cells -/
def SlIs (n : Nat) (xs : List Value) : World → Value → Prop := fun w v => (∃ p c, v = .slice p n c) ∧ SlAt w v n xs
theorem SlIs.mono (n : Nat) (xs : List Value) : Mono (SlIs n xs) := fun _ _ _ h ⟨h1, h2⟩ => ⟨h1, h2.own0 h⟩

/-- a slice literal -/
theorem sp_lit {t el : TypeId} {len : Nat} {parts : Array (Nat × Operand)} (hg : o.guard = none) (ho : o.op = .buildSlice t len parts) {cs : List Value} (hl : len = cs.length)
    (hf : ∀ w', (Instr.buildSlice t len (parts.map fun (i, x) => (i, a.eval x))).run P w' = .ok (.slice (some ⟨w'.heap.size, 0, none⟩) len len) (w'.alloc (.cells cs.toArray el)))
    (h2 : ∀ v, wpSp P ops w K sps rest (fun w' S => F w' S ∧ ∀ d, o.dst = some d → S d → SlIs len cs w' v) (a.put o.dst v)) : wpSp P ops w K (.rel (SlIs len cs) :: sps) (o :: rest) F a := by
  refine sp_rel (SlIs.mono _ _) (by simp [Region.wanted, hg]) (fun w' hw' hF => ?_) h2
  obtain ⟨n, w1, hr, hn, ho1⟩ := rn_buildSlice (o := o) (a := a) (Own.refl w') ho hf
  refine yieldsTo_val' hr ⟨ho1.end0 (by simpa using hn), ⟨_, _, rfl⟩, ?_⟩
  subst hl
  exact Or.inr ⟨n, 0, cs.length, rfl, ⟨Nat.le_refl _, List.eq_nil_of_length_eq_zero⟩, fun i x hx => by rw [ho1.cell (.head _), Nat.zero_add]; exact hx⟩

/-- The same, the values left open (one 'apply Exists.intro' each): 'none': a value, 'some A': an assertion. -/
def exSp : List (Option (World → Value → Prop)) → (List Sp → Prop) → Prop
  | [], k => k []
  | none :: ks, k => ∃ v, exSp ks (fun l => k (.val v :: l))
  | some A :: ks, k => exSp ks (fun l => k (.rel A :: l))

theorem exSp_spec : ∀ (ks : List (Option (World → Value → Prop))) (k : List Sp → Prop), exSp ks k → ∃ l, l.length = ks.length ∧ k l
  | [], _, h => ⟨[], rfl, h⟩
  | none :: ks, k, ⟨v, h⟩ => by
    obtain ⟨l, h1, h2⟩ := exSp_spec ks _ h
    exact ⟨.val v :: l, by simp [h1], h2⟩
  | some A :: ks, k, h => by
    obtain ⟨l, h1, h2⟩ := exSp_spec ks _ h
    exact ⟨.rel A :: l, by simp [h1], h2⟩

theorem region_growE {id : Nat} {l : List Oper} {Q : Exit → Act → World → Prop} {a : Act} {w : World} (n : Nat) (hm : P.follows .mixedOrders = true) (hB : (regB l.toArray n && Region.noSelect l.toArray && apartB l.toArray n) = true) (hN : dstsB l.toArray n a.tmps.size = true)
    (ks : List (Option (World → Value → Prop))) (hl : ks.length = n)
    (h : exSp ks fun sps => wpSp P l.toArray w (fun F a' => ∀ w', Own w w' [] → F w' (fun _ => True) → wpList P l.toArray Q (l.drop n) a' w') sps l (fun _ _ => True) a) : (Code.region id l.toArray true).wp P Q a w := by
  obtain ⟨sps, h1, h2⟩ := exSp_spec ks _ h
  exact region_grow n hm hB hN sps (h1.trans hl) h2

theorem sp_nil (h : K F a) {l : List Oper} : wpSp P ops w K [] l F a := by
  cases l <;> exact h

end
end Go.Proofs.Ytokichlmgepdpaa

/-! A slice of bytes that a call grows by append; indexing of arrays and strings. No dump, no condition. -/
namespace Go.Proofs.Ytokichlmgepdpaa
open Go.RowKit

section
variable {P : Program} {ops : Array Oper} {rest : List Oper} {o : Oper} {a : Act} {w w0 : World} {Q : Exit → Act → World → Prop} {L L' : List Ent}

/-- a slice of the call's own, of cells of one kind of number; the other blocks that the call owns -/
def Buf (e : TypeId) (k : IntKind) (w0 w : World) (L : List Ent) (v : Value) (xs : List Int) : Prop :=
  ∃ Lv, SlOwn e 1 v xs.length (ints k xs) Lv ∧ Own w0 w (Lv ++ L) ∧ ∀ j ∈ Lv.map (·.1), w0.heap.size ≤ j

variable {e : TypeId} {k : IntKind} {v xv : Value} {xs ys : List Int}

theorem Buf.slice (h : Buf e k w0 w L v xs) : ∃ p c, v = .slice p xs.length c := by
  obtain ⟨Lv, ⟨_, ⟨rfl, h2, _⟩ | ⟨g, cap, cs, rfl, _⟩⟩, _⟩ := h
  · exact ⟨none, 0, by rw [h2]⟩
  · exact ⟨_, _, rfl⟩

theorem Buf.nil (H : Own w0 w L) : Buf e k w0 w L (.slice none 0 0) [] := ⟨[], SlOwn.nil e 1, H, by simp⟩

theorem Buf.slAt (h : Buf e k w0 w L v xs) : SlAt w v xs.length (ints k xs) := by
  obtain ⟨Lv, h1, h2, _⟩ := h
  exact h1.slAt h2

theorem Buf.bytesAt (h : Buf e .u8 w0 w L v xs) : BytesAt w v xs := h.slAt

theorem Buf.own (h : Buf e k w0 w L v xs) : ∃ Lv, Own w0 w (L ++ Lv) ∧ ∀ j ∈ Lv.map (·.1), w0.heap.size ≤ j := by
  obtain ⟨Lv, _, h2, h3⟩ := h
  exact ⟨Lv, h2.perm List.perm_append_comm, h3⟩

theorem Buf.own0 (h : Buf e k w0 w L v xs) : Own w0 w L := by
  obtain ⟨Lv, _, h2, h3⟩ := h
  exact h2.drop h3

theorem Buf.ne (h : Buf e k w0 w L v xs) {j : Nat} (hj : blk v = some j) : j ∉ L.map (·.1) := by
  obtain ⟨Lv, ⟨_, ⟨rfl, _, _⟩ | ⟨g, cap, cs, rfl, rfl, _⟩⟩, h2, _⟩ := h
  · cases hj
  · obtain rfl : g = j := (blk_some hj).1
    have := h2.nodup
    simp at this
    intro hm
    obtain ⟨x, hx, hxe⟩ := List.mem_map.1 hm
    obtain ⟨x1, x2, x3⟩ := x
    simp only at hxe
    subst hxe
    exact this.1 _ _ hx

theorem Buf.drewN (h : Buf e k w0 w L v xs) (m : Nat) : Buf e k w0 (w.drewN m) L v xs := by
  obtain ⟨Lv, h1, h2, h3⟩ := h
  exact ⟨Lv, h1, h2.drewN m, h3⟩

/-- a block more -/
theorem Buf.push {b : Nat} {cs : List Value} {T : TypeId} (h : Buf e k w0 w L v xs) {w' : World} (hstep : ∀ L1, Own w0 w L1 → Own w0 w' ((b, cs, T) :: L1)) : Buf e k w0 w' ((b, cs, T) :: L) v xs := by
  obtain ⟨Lv, h1, h2, h3⟩ := h
  exact ⟨Lv, h1, (hstep _ h2).perm (List.perm_middle.symm), h3⟩

/-- a block less -/
theorem Buf.pop {b : Nat} {cs : List Value} {T : TypeId} (h : Buf e k w0 w ((b, cs, T) :: L) v xs) (hb : w0.heap.size ≤ b) : Buf e k w0 w L v xs := by
  obtain ⟨Lv, h1, h2, h3⟩ := h
  exact ⟨Lv, h1, Own.drop (L1 := [(b, cs, T)]) (h2.perm List.perm_middle) (by simpa using hb), h3⟩

/-- a call that turns one of the other blocks -/
theorem Buf.call1 {b : Nat} {cs cs' : List Value} {T T' : TypeId} {w' : World} (h : Buf e k w0 w ((b, cs, T) :: L) v xs) (hu : Own w w' [(b, cs', T')]) : Buf e k w0 w' ((b, cs', T') :: L) v xs := by
  obtain ⟨Lv, h1, h2, h3⟩ := h
  exact ⟨Lv, h1, ((h2.perm List.perm_middle).call1 hu).perm List.perm_middle.symm, h3⟩

theorem Buf.call0 {w' : World} (h : Buf e k w0 w L v xs) (hu : Own w w' []) : Buf e k w0 w' L v xs := by
  obtain ⟨Lv, h1, h2, h3⟩ := h
  exact ⟨Lv, h1, h2.call0 hu, h3⟩

theorem Buf.sub1 {b : Nat} {cs : List Value} {T : TypeId} (h : Buf e k w0 w L v xs) (hm : (b, cs, T) ∈ L) : Own w w [(b, cs, T)] := by
  obtain ⟨Lv, _, h2, _⟩ := h
  exact h2.sub1 (List.mem_append_right _ hm)

/-- a slice literal of one's own -/
theorem Buf.lit {b : Nat} (H : Own w0 w ((b, ints k xs, e) :: L)) (hb : w0.heap.size ≤ b) (hm : xs.length ≤ 140737488355328) : Buf e k w0 w L (.slice (some ⟨b, 0, none⟩) xs.length xs.length) xs := by
  refine ⟨[(b, ints k xs, e)], ⟨by simp [ints], Or.inr ⟨b, xs.length, _, rfl, rfl, Nat.le_refl _, ?_, by simp [ints], List.take_of_length_le (by simp [ints])⟩⟩, H, by simpa using hb⟩
  exact Nat.le_trans hm (by decide)

/-- append to it -/
theorem st_app (hg : o.guard = none) (E : Buf e k w0 w L v xs) {by_ : Nat} (he : Elem P e 1 by_) {s x : Operand} {t : TypeId} (ho : o.op = .call { callee := .builtin .append, args := #[s, x], argTypes := #[t, t] })
    (ht : P.underlying t = some (.slice e)) (hs : a.eval s = v) (hx : a.eval x = xv) (hsrc : SlAt w xv ys.length (ints k ys)) (hb : (xs.length + ys.length) * by_ ≤ 140737488355328) (h63 : xs.length + ys.length ≤ 140737488355328)
    (h : ∀ p c w', Buf e k w0 w' L (.slice p (xs.length + ys.length) c) (xs ++ ys) → wpList P ops Q rest (a.put o.dst (.slice p (xs.length + ys.length) c)) w') : wpList P ops Q (o :: rest) a w := by
  obtain ⟨Lv, h1, h2, h3⟩ := E
  obtain ⟨v', w', Lv', hrun, f1, f2, f3⟩ := rn_append he h2 ho ht hs hx h1 hsrc (by simp [ints]) (oneCell_ints _ _) hb h63 h3
  have B : Buf e k w0 w' L v' (xs ++ ys) := ⟨Lv', by rw [List.length_append, ints_append]; exact f1, f2, f3⟩
  obtain ⟨p, c, rfl⟩ := B.slice
  rw [List.length_append] at hrun B
  exact wpList_plain hg fun K hK => by unfold Oper.wp; rw [hrun, Oper.upon_value]; exact hK _ _ (h p c w' B)

/-- a literal beside it -/
theorem st_lit (hg : o.guard = none) (E : Buf e k w0 w L v xs) {t el : TypeId} {len : Nat} {parts : Array (Nat × Operand)} (ho : o.op = .buildSlice t len parts) {cs : List Value}
    (hf : ∀ w', (Instr.buildSlice t len (parts.map fun (i, x) => (i, a.eval x))).run P w' = .ok (.slice (some ⟨w'.heap.size, 0, none⟩) len len) (w'.alloc (.cells cs.toArray el)))
    (h : ∀ n w', w0.heap.size ≤ n → Buf e k w0 w' ((n, cs, el) :: L) v xs → wpList P ops Q rest (a.put o.dst (.slice (some ⟨n, 0, none⟩) len len)) w') : wpList P ops Q (o :: rest) a w := by
  have hsz := E.own0.size
  have B : Buf e k w0 (w.alloc (.cells cs.toArray el)) ((w.heap.size, cs, el) :: L) v xs := E.push fun L1 h1 => h1.alloc cs el
  have hrun : (execOp a.eval o).run P w = .ok (.value (.slice (some ⟨w.heap.size, 0, none⟩) len len)) (w.alloc (.cells cs.toArray el)) := by
    unfold execOp
    simp only [ho, Sem.run_bind, hf w, Result.andThen_ok]
    rfl
  exact wpList_plain hg fun K hK => by unfold Oper.wp; rw [hrun, Oper.upon_value]; exact hK _ _ (h _ _ hsz B)

theorem Buf.litAt {b : Nat} {cs : List Value} {T : TypeId} {n : Nat} (h : Buf e k w0 w L v xs) (hm : (b, cs, T) ∈ L) (hn : n = cs.length) : SlAt w (.slice (some ⟨b, 0, none⟩) n n) n cs := by
  obtain ⟨Lv, _, h2, _⟩ := h
  subst hn
  exact Or.inr ⟨b, 0, cs.length, rfl, ⟨Nat.le_refl _, List.eq_nil_of_length_eq_zero⟩, fun i x hx => by rw [h2.cell (List.mem_append_right _ hm), Nat.zero_add]; exact hx⟩

/-- an element of an array that is a value -/
theorem rn_idxAgg {t : TypeId} {x ix : Operand} (ho : o.op = .index t x ix) {n : Nat} (hu : P.underlying t = some (.array n e)) (hs : (P.info? e).map (·.size) = some 1) {d : TypeDesc} (hd : P.underlying e = some d) (hp : plainDesc d = true)
    {cs : List Int} (hx : a.eval x = .agg (ints k cs).toArray) {ki : IntKind} {i : Int} (hj : a.eval ix = .int ki i) (h0 : 0 ≤ i) (h1 : i < cs.length) (h2 : cs.length = n) : (execOp a.eval o).run P w = .ok (.value (.int k (cs[i.toNat]?.getD 0))) w := by
  obtain ⟨j, rfl⟩ : ∃ j : Nat, i = j := ⟨i.toNat, by omega⟩
  have hj1 : j < cs.length := by omega
  unfold execOp
  subst h2
  have hb : (0 : Int) ≤ (j : Int) ∧ (j : Int) < (cs.length : Int) := ⟨h0, h1⟩
  have hg : (ints k cs).toArray[j * 1]? = some (.int k (cs[j]?.getD 0)) := by rw [Nat.mul_one]; simpa using ints_get (k := k) hj1
  simp only [ho, hx, hj, Instr.index, asIntOf, Sem.run_bind, Sem.run_pure, Result.andThen_ok, run_underlying hu, Int.toNat_natCast]
  rw [if_pos hb]
  simp only [Sem.run_bind, run_sizeOf hs, Result.andThen_ok, part, run_isAgg hd, hp, Bool.not_true, Bool.false_eq_true, if_false, hg, Sem.run_pure]

/-- a byte of a string -/
theorem rn_idxStr {t : TypeId} {x ix : Operand} (ho : o.op = .index t x ix) (hu : P.underlying t = some .string) {s : ByteArray} (hx : a.eval x = .string s) {ki : IntKind} {i z : Int} (hj : a.eval ix = .int ki i) (h0 : 0 ≤ i)
    (hz : (s[i.toNat]?).map (fun b => (b.toNat : Int)) = some z) : (execOp a.eval o).run P w = .ok (.value (.int .u8 z)) w := by
  unfold execOp
  cases hb : s[i.toNat]? with
  | none => simp [hb] at hz
  | some b =>
    simp only [hb, Option.map_some, Option.some.injEq] at hz
    subst hz
    simp only [ho, hx, hj, Instr.index, asIntOf, Sem.run_bind, Sem.run_pure, Result.andThen_ok, run_underlying hu, if_pos h0, hb]

end
end Go.Proofs.Ytokichlmgepdpaa

/-! []byte{..} turned to []byte: the row gets a mark; it reads as before. No dump, no condition. -/
namespace Go.Proofs.Ytokichlmgepdpaa
open Go.RowKit

section
variable {P : Program} {ops : Array Oper} {rest : List Oper} {o : Oper} {a : Act} {w w0 : World} {Q : Exit → Act → World → Prop} {L L' : List Ent}

/-- what is left of what a call owns when one of its own rows is marked -/
theorem Own.marked {b : Nat} {cs : List Value} {T : TypeId} (H : Own w0 w ((b, cs, T) :: L)) (hb : w0.heap.size ≤ b) (n m : Nat) : Own w0 (w.freeze ⟨b, n, none⟩ m) L ∧ ∀ i, (w.freeze ⟨b, n, none⟩ m).cell? ⟨b, i, none⟩ = cs[i]? := by
  have hh := H.here b cs T (.head _)
  have hlt := H.lt (.head _)
  unfold World.freeze
  split
  · exact ⟨Own.drop (L1 := [(b, cs, T)]) H (by simpa using hb), fun i => H.cell (.head _) i⟩
  · have hother : ∀ k f, k ≠ b → (w.heap.modify b f)[k]? = w.heap[k]? := by
      intro k f hk
      rw [Array.getElem?_modify, if_neg (fun e => hk e.symm)]
    have hnd := H.nodup
    simp only [List.map_cons, List.nodup_cons] at hnd
    refine ⟨⟨H.os, H.tape, H.output, by simpa using H.size, fun k hk hkL => ?_, hnd.2, fun b' cs' T' hm => ?_⟩, fun i => ?_⟩
    · show (w.heap.modify b _)[k]? = _
      rw [hother k _ (by omega)]
      exact H.keep k hk (by
        simp only [List.map_cons, List.mem_cons, not_or]
        exact ⟨by omega, hkL⟩)
    · show (w.heap.modify b _)[b']? = _
      rw [hother b' _ (fun e => hnd.1 (e ▸ List.mem_map.2 ⟨_, hm, rfl⟩))]
      exact H.here b' cs' T' (.tail _ hm)
    · unfold World.cell?
      show (match (w.heap.modify b _)[b]? with | some (.cells c _ _) => _ | _ => _) = _
      rw [Array.getElem?_modify, if_pos rfl, hh]
      simp

/-- []byte(b) of a row of one's own -/
theorem st_conv (hw : Region.wanted o (yielded ops a.tmps) = true) {b : Nat} {bs : List Int} {T t e : TypeId} {x : Operand} {n : Nat} (H : Own w0 w ((b, u8s bs, T) :: L)) (hb : w0.heap.size ≤ b) (ho : o.op = .convert t t x) (ht : P.underlying t = some (.slice e)) (he : P.underlying e = some (.int .u8))
    (hx : a.eval x = .slice (some ⟨b, 0, none⟩) n n) (hn : n = bs.length)
    (h : ∀ w', BytesAt w' (.slice (some ⟨b, 0, none⟩) n n) bs → b < w'.heap.size → Own w0 w' L → wpList P ops Q rest (a.put o.dst (.slice (some ⟨b, 0, none⟩) n n)) w') : wpList P ops Q (o :: rest) a w := by
  subst hn
  have hh := H.here b (u8s bs) T (.head _)
  have hlt := H.lt (.head _)
  have hsh : w.shape? b = some (T, (u8s bs).length) := by unfold World.shape?; rw [hh]; simp
  have hrun : (execOp a.eval o).run P w = .ok (.value (.slice (some ⟨b, 0, none⟩) bs.length bs.length)) (w.freeze ⟨b, (u8s bs).length, none⟩ 1) := by
    unfold execOp
    simp only [ho, hx]
    simp [convert, run_underlying ht, run_underlying he, markStringish, hsh, Sem.run_bind]
  obtain ⟨h1, h2⟩ := H.marked hb (u8s bs).length 1
  have hsz : (w.freeze ⟨b, (u8s bs).length, none⟩ 1).heap.size = w.heap.size := by unfold World.freeze; split <;> simp
  have hk := h _ (Or.inr ⟨b, 0, bs.length, rfl, ⟨Nat.le_refl _, fun h => by rw [List.eq_nil_of_length_eq_zero h]; rfl⟩, fun i x hx => by rw [Nat.zero_add, h2 i]; exact hx⟩) (by omega) h1
  exact BigFrame.wpList_want hw fun K hK => by unfold Oper.wp; rw [hrun, Oper.upon_value]; exact hK _ _ hk
end
end Go.Proofs.Ytokichlmgepdpaa

/-! make of a slice; the bytes of a string. No dump, no condition. -/
namespace Go.Proofs.Ytokichlmgepdpaa
open Go.RowKit

section
variable {P : Program} {ops : Array Oper} {rest : List Oper} {o : Oper} {a : Act} {w w0 : World} {Q : Exit → Act → World → Prop} {L L' : List Ent}

theorem madeCells_one (v : Value) (n : Nat) : madeCells #[v] n = (List.replicate n v).toArray := by
  apply Array.ext
  · simp [madeCells]
  · intro i h1 h2
    have hi : i < n := by simpa [madeCells] using h1
    simp [madeCells, Nat.mod_one]

/-- make([]T, n) of one-cell elements -/
theorem rn_make (H : Own w0 w L) {t : TypeId} {x y : Operand} (ho : o.op = .makeSlice t x y) {e : TypeId} {v : Value} {by_ : Nat} (ht : P.underlying t = some (.slice e))
    (he : ((P.info? e).bind fun i => i.zero.map fun z => (i.size, i.bytes, z.cells.toList)) = some (1, by_, [v])) {k1 k2 : IntKind} {z1 z2 : Int} {n : Nat} (hx : a.eval x = .int k1 z1) (hy : a.eval y = .int k2 z2) (h1 : z1 = n) (h2 : z2 = n) (hb : by_ * n ≤ 281474976710656) (h63 : n ≤ 9223372036854775807) :
    ∃ b w', (execOp a.eval o).run P w = .ok (.value (.slice (some ⟨b, 0, none⟩) n n)) w' ∧ w0.heap.size ≤ b ∧ Own w0 w' ((b, List.replicate n v, e) :: L) := by
  subst h1 h2
  cases hi : P.info? e with
  | none => simp [hi] at he
  | some i =>
    cases hz : i.zero with
    | none => simp [hi, hz] at he
    | some z =>
      simp [hi, hz] at he
      obtain ⟨hs, hby, hc⟩ := he
      have hzc : z.cells = #[v] := by rw [← Array.toList_inj]; exact hc
      have hb' : (i.bytes : Int) * (n : Int) ≤ 281474976710656 := by
        have h : ((i.bytes * n : Nat) : Int) ≤ 281474976710656 := by rw [hby]; exact Int.ofNat_le.2 hb
        rwa [Int.natCast_mul] at h
      have hr := run_make (P := P) w t e i z ht hi hz k1 k2 n n (by omega) (Int.le_refl _) hb' (by omega)
      simp only [Int.toNat_natCast, hs, Nat.mul_one, hzc, madeCells_one] at hr
      refine ⟨w.heap.size, _, ?_, H.size, H.alloc (List.replicate n v) e⟩
      unfold execOp
      simp only [ho, hx, hy, Sem.run_bind, hr, Result.andThen_ok]
      rfl

/-- the numbers of a string's bytes -/
def numsOf (s : ByteArray) : List Int := s.data.toList.map fun b => (b.toNat : Int)

theorem length_numsOf (s : ByteArray) : (numsOf s).length = s.size := by unfold numsOf; rw [List.length_map]; rfl

/-- []byte(s) -/
theorem rn_bytesOf {src dst e : TypeId} {x : Operand} (ho : o.op = .convert src dst x) (hs : P.underlying src = some .string) (hd : P.underlying dst = some (.slice e)) (he : P.underlying e = some (.int .u8)) {s : ByteArray} (hx : a.eval x = .string s) {n : Nat} (hn : s.size = n) :
    ∃ p c w', (execOp a.eval o).run P w = .ok (.value (.slice p n c)) w' ∧ Own w w' [] ∧ SlAt w' (.slice p n c) n (u8s (numsOf s)) ∧ ∀ k, blk (Value.slice p n c) = some k → k < w'.heap.size := by
  subst hn
  have hr := run_bytes_of_string (P := P) w src dst e s hs hd he
  refine ⟨some ⟨w.heap.size, 0, none⟩, grownCap w s.size 0 e, w.drew.alloc (.cells (bytesRow s (grownCap w s.size 0 e)) e ((bytesRow s (grownCap w s.size 0 e)).size, (bytesRow s (grownCap w s.size 0 e)).size + 1)), ?_, ⟨rfl, rfl, rfl, ?_, ?_, List.nodup_nil, (by intro b cs T h; cases h)⟩, ?_, ?_⟩
  · unfold execOp
    simp only [ho, hx, Sem.run_bind, hr, Result.andThen_ok]
    rfl
  · show w.heap.size ≤ (w.heap.push _).size
    rw [Array.size_push]; omega
  · intro k hk _
    exact Below.heap_alloc w.drew _ k hk
  · refine Or.inr ⟨w.heap.size, 0, _, rfl, ⟨grownCap_ge w s.size 0 e, fun h => List.eq_nil_of_length_eq_zero (by rw [length_ints, length_numsOf]; exact h)⟩, fun i v hv => ?_⟩
    have hi : i < s.data.size := by
      have := (List.getElem?_eq_some_iff.1 hv).1
      rw [length_ints, length_numsOf] at this
      exact this
    rw [Nat.zero_add]
    have hv' : v = .int .u8 (s.data[i].toNat : Int) := by
      have := hv
      simp [ints, numsOf] at this
      obtain ⟨x, hx, rfl⟩ := this
      rw [Array.getElem?_eq_getElem hi] at hx
      cases hx
      rfl
    rw [hv', ← bytesRow_at s (grownCap w s.size 0 e) i hi]
    exact World.cell?_alloc_mark ..
  · intro k hk
    obtain rfl := (blk_some hk).1
    show w.heap.size < (w.heap.push _).size
    rw [Array.size_push]; omega
end
end Go.Proofs.Ytokichlmgepdpaa

/-! The law of XGrow once more, for regions in which 'append' grows a slice of the region's own, too. No dump, no condition. -/
namespace Go.Proofs.Ytokichlmgepdpaa
open Go.RowKit

/-- a step that leaves all as it was, but for the cells from m on of one row that is not older than B -/
def Gr (B m : Nat) (w1 w2 : World) : Prop := Own w1 w2 [] ∨ ∃ g cs cs' T, B ≤ g ∧ w1.heap[g]? = some (.cells (List.toArray cs) T (0, 0)) ∧ Own w1 w2 [(g, cs', T)] ∧ cs'.length = cs.length ∧ cs'.take m = cs.take m

theorem Gr.own {w w1 w2 : World} {m : Nat} (h : Gr w.heap.size m w1 w2) (h1 : Own w w1 []) : Own w w2 [] := by
  rcases h with h | ⟨g, cs, cs', T, hg, hc, h, _, _⟩
  · exact h1.call0 h
  · exact ⟨h.os.trans h1.os, h.tape.trans h1.tape, h.output.trans h1.output, Nat.le_trans h1.size h.size, fun k hk _ => (h.keep k (Nat.lt_of_lt_of_le hk h1.size) (by simp; omega)).trans (h1.keep k hk (by simp)), List.nodup_nil, fun _ _ _ h => by cases h⟩

theorem Buf.gr {e : TypeId} {k : IntKind} {w w1 w2 : World} {v : Value} {xs : List Int} {m : Nat} (h : Buf e k w w1 [] v xs) (hm : xs.length ≤ m) (hg : Gr w.heap.size m w1 w2) : Buf e k w w2 [] v xs := by
  have hown := hg.own (by obtain ⟨Lv, _, h2, h3⟩ := h; exact h2.drop h3)
  rcases hg with hg | ⟨g, cs, cs', T, hgB, hc, hg, hl, ht⟩
  · exact h.call0 hg
  · obtain ⟨Lv, ⟨h1, ⟨rfl, h2, rfl⟩ | ⟨g0, cap, cs0, rfl, rfl, hn, hcap, hcl, htk⟩⟩, h3, h4⟩ := h
    · exact ⟨[], ⟨h1, Or.inl ⟨rfl, h2, rfl⟩⟩, hown, by simp⟩
    · by_cases hgg : g0 = g
      · subst hgg
        have hh := h3.here g0 cs0 e (by simp)
        rw [hc] at hh
        simp only [Option.some.injEq, Obj.cells.injEq, and_true] at hh
        obtain ⟨hcs, rfl⟩ := hh
        have hcs' : cs = cs0 := by simpa using congrArg Array.toList hcs
        subst hcs'
        refine ⟨[(g0, cs', T)], ⟨h1, Or.inr ⟨g0, cap, cs', rfl, rfl, hn, hcap, by omega, ?_⟩⟩, h3.call1 hg, h4⟩
        rw [← htk, ← Nat.min_eq_left (show xs.length * 1 ≤ m by omega), ← List.take_take, ← List.take_take, ht]
      · refine ⟨[(g0, cs0, e)], ⟨h1, Or.inr ⟨g0, cap, cs0, rfl, rfl, hn, hcap, hcl, htk⟩⟩, ⟨hown.os, hown.tape, hown.output, hown.size, fun k hk hkn => hown.keep k hk (by simp), by simp, fun b cs1 T1 hm1 => ?_⟩, h4⟩
        simp at hm1
        obtain ⟨rfl, rfl, rfl⟩ := hm1
        have hh := h3.here b cs1 T1 (by simp)
        rw [hg.keep b (Array.getElem?_eq_some_iff.1 hh).1 (by simpa using hgg)]
        exact hh

/-- a step that marks a row that is not older than B: it reads as before -/
def Mk (B : Nat) (w1 w2 : World) : Prop := w2.os = w1.os ∧ w2.tape = w1.tape ∧ w2.output = w1.output ∧ w1.heap.size ≤ w2.heap.size ∧ ∃ g, B ≤ g ∧ (∀ k, k < w1.heap.size → k ≠ g → w2.heap[k]? = w1.heap[k]?) ∧ w2.shape? g = w1.shape? g ∧ ∀ i x, w1.cell? ⟨g, i, none⟩ = some x → w2.cell? ⟨g, i, none⟩ = some x

theorem Mk.own {w w1 w2 : World} (h : Mk w.heap.size w1 w2) (h1 : Own w w1 []) : Own w w2 [] := by
  obtain ⟨e1, e2, e3, hs, g, hg, hk, _⟩ := h
  exact ⟨e1.trans h1.os, e2.trans h1.tape, e3.trans h1.output, Nat.le_trans h1.size hs, fun k hk2 _ => (hk k (Nat.lt_of_lt_of_le hk2 h1.size) (by omega)).trans (h1.keep k hk2 (by simp)), List.nodup_nil, fun _ _ _ h => by cases h⟩

theorem Mk.sl {B : Nat} {w1 w2 : World} (h : Mk B w1 w2) {v : Value} {n : Nat} {xs : List Value} (hs : SlAt w1 v n xs) : SlAt w2 v n xs := by
  obtain ⟨_, _, _, _, g, _, hk, _, hc⟩ := h
  rcases hs with hs | ⟨b, off, cap, rfl, hl, hx⟩
  · exact Or.inl hs
  · refine Or.inr ⟨b, off, cap, rfl, hl, fun i x hi => ?_⟩
    have h1 := hx i x hi
    by_cases e : b = g
    · subst e; exact hc _ _ h1
    · exact (World.cell?_of_block (w := w1) (hk b (World.block_lt_of_cell? w1 _ h1) e)).trans h1

/-- what is known of a temporary -/
inductive Sq
  | val (v : Value)
  | rel (A : World → Value → Prop)
  | app (m : Nat) (A : World → Value → Prop)
  | mrk (A : World → Value → Prop)

def Sq.asn : Sq → Asn
  | .val v => fun _ v' => v' = v
  | .rel A => A
  | .app _ A => A
  | .mrk A => A

def Sq.pres (B m : Nat) : Sq → Prop
  | .val _ => True
  | .rel A => ∀ w1 w2 v, Gr B m w1 w2 → A w1 v → A w2 v
  | .app _ A => ∀ w1 w2 v, Gr B m w1 w2 → A w1 v → A w2 v
  | .mrk A => ∀ w1 w2 v, Gr B m w1 w2 → A w1 v → A w2 v

def Sq.presM (B : Nat) : Sq → Prop
  | .val _ => True
  | .rel A => ∀ w1 w2 v, Mk B w1 w2 → A w1 v → A w2 v
  | .app _ A => ∀ w1 w2 v, Mk B w1 w2 → A w1 v → A w2 v
  | .mrk A => ∀ w1 w2 v, Mk B w1 w2 → A w1 v → A w2 v

def mRow (ops : Array Oper) (B i : Nat) : Nat → List Sq → Prop
  | _, [] => True
  | k, s :: r => (k = i ∨ waitsB ops k i = true ∨ s.presM B) ∧ mRow ops B i (k + 1) r

theorem mRow_at {ops : Array Oper} {B i : Nat} : ∀ (r : List Sq) (k0 : Nat), mRow ops B i k0 r → ∀ j s, r[j]? = some s → k0 + j = i ∨ waitsB ops (k0 + j) i = true ∨ s.presM B
  | [], _, _, j, s, hj => by simp at hj
  | s0 :: r, k0, h, 0, s, hj => by simp at hj; subst hj; simpa using h.1
  | s0 :: r, k0, h, j + 1, s, hj => by
    have := mRow_at r (k0 + 1) h.2 j s (by simpa using hj)
    rwa [show k0 + 1 + j = k0 + (j + 1) by omega] at this

def gRow (ops : Array Oper) (B i m : Nat) : Nat → List Sq → Prop
  | _, [] => True
  | k, s :: r => (k = i ∨ waitsB ops k i = true ∨ s.pres B m) ∧ gRow ops B i m (k + 1) r

def gAll (ops : Array Oper) (B : Nat) (all : List Sq) : Nat → List Sq → Prop
  | _, [] => True
  | i, .app m _ :: r => gRow ops B i m 0 all ∧ gAll ops B all (i + 1) r
  | i, .mrk _ :: r => mRow ops B i 0 all ∧ gAll ops B all (i + 1) r
  | i, .val _ :: r => gAll ops B all (i + 1) r
  | i, .rel _ :: r => gAll ops B all (i + 1) r

theorem gRow_at {ops : Array Oper} {B i m : Nat} : ∀ (r : List Sq) (k0 : Nat), gRow ops B i m k0 r → ∀ j s, r[j]? = some s → k0 + j = i ∨ waitsB ops (k0 + j) i = true ∨ s.pres B m
  | [], _, _, j, s, hj => by simp at hj
  | s0 :: r, k0, h, 0, s, hj => by simp at hj; subst hj; simpa using h.1
  | s0 :: r, k0, h, j + 1, s, hj => by
    have := gRow_at r (k0 + 1) h.2 j s (by simpa using hj)
    rwa [show k0 + 1 + j = k0 + (j + 1) by omega] at this

theorem gAll_at {ops : Array Oper} {B : Nat} {all : List Sq} : ∀ (r : List Sq) (i0 : Nat), gAll ops B all i0 r → ∀ j m A, r[j]? = some (.app m A) → gRow ops B (i0 + j) m 0 all
  | [], _, _, j, m, A, hj => by simp at hj
  | s0 :: r, i0, h, 0, m, A, hj => by
    simp at hj
    subst hj
    exact h.1
  | s0 :: r, i0, h, j + 1, m, A, hj => by
    have h' : gAll ops B all (i0 + 1) r := by
      cases s0 with
      | val v => exact h
      | rel A => exact h
      | app m A => exact h.2
      | mrk A => exact h.2
    have := gAll_at r (i0 + 1) h' j m A (by simpa using hj)
    rwa [show i0 + 1 + j = i0 + (j + 1) by omega] at this

theorem gAll_atM {ops : Array Oper} {B : Nat} {all : List Sq} : ∀ (r : List Sq) (i0 : Nat), gAll ops B all i0 r → ∀ j A, r[j]? = some (.mrk A) → mRow ops B (i0 + j) 0 all
  | [], _, _, j, A, hj => by simp at hj
  | s0 :: r, i0, h, 0, A, hj => by
    simp at hj
    subst hj
    exact h.1
  | s0 :: r, i0, h, j + 1, A, hj => by
    have h' : gAll ops B all (i0 + 1) r := by
      cases s0 with
      | val v => exact h
      | rel A => exact h
      | app m A => exact h.2
      | mrk A => exact h.2
    have := gAll_atM r (i0 + 1) h' j A (by simpa using hj)
    rwa [show i0 + 1 + j = i0 + (j + 1) by omega] at this

theorem Sq.mono_val (v : Value) : Mono (Sq.val v).asn := fun _ _ _ _ h => h

def wpSq (P : Program) (ops : Array Oper) (w : World) (K : (World → (Nat → Prop) → Prop) → Act → Prop) : List Sq → List Oper → (World → (Nat → Prop) → Prop) → Act → Prop
  | [], _, F, a => K F a
  | .val v :: sps, o :: rest, F, a => (∀ w', Own w w' [] → F w' (fun s => s ∈ o.looksAt ops) → if Region.wanted o (yielded ops a.tmps) then YieldsTo P o a w' (fun v' w'' => v' = v ∧ Own w' w'' []) else undef = v) ∧ wpSq P ops w K sps rest F (a.put o.dst v)
  | .rel A :: sps, o :: rest, F, a => Mono A ∧ Region.wanted o (yielded ops a.tmps) = true ∧ (∀ w', Own w w' [] → F w' (fun s => s ∈ o.looksAt ops) → YieldsTo P o a w' (fun v w'' => Own w' w'' [] ∧ A w'' v)) ∧
      ∀ v, wpSq P ops w K sps rest (fun w' S => F w' S ∧ ∀ d, o.dst = some d → S d → A w' v) (a.put o.dst v)
  | .app m A :: sps, o :: rest, F, a => Mono A ∧ Region.wanted o (yielded ops a.tmps) = true ∧ (∀ w', Own w w' [] → F w' (fun s => s ∈ o.looksAt ops) → YieldsTo P o a w' (fun v w'' => Gr w.heap.size m w' w'' ∧ A w'' v)) ∧
      ∀ v, wpSq P ops w K sps rest (fun w' S => F w' S ∧ ∀ d, o.dst = some d → S d → A w' v) (a.put o.dst v)
  | .mrk A :: sps, o :: rest, F, a => Mono A ∧ Region.wanted o (yielded ops a.tmps) = true ∧ (∀ w', Own w w' [] → F w' (fun s => s ∈ o.looksAt ops) → YieldsTo P o a w' (fun v w'' => Mk w.heap.size w' w'' ∧ A w'' v)) ∧
      ∀ v, wpSq P ops w K sps rest (fun w' S => F w' S ∧ ∀ d, o.dst = some d → S d → A w' v) (a.put o.dst v)
  | _ :: _, [], _, _ => False

section
variable {P : Program} {ops : Array Oper}

theorem wpSq_at {w : World} {K : (World → (Nat → Prop) → Prop) → Act → Prop} {a : Act} (vals : Nat → Value) : ∀ (i : Nat) (sps : List Sq) (k : Nat) (F : World → (Nat → Prop) → Prop), (∀ j v, sps[j]? = some (.val v) → vals (k + j) = v) →
    wpSq P ops w K sps (ops.toList.drop k) F (frameAt ops vals a k) → i ≤ sps.length →
    ∃ F', (∀ w' S, F w' S → (∀ j s d, j < i → sps[j]? = some s → ops[k + j]?.bind (·.dst) = some d → S d → s.asn w' (vals (k + j))) → F' w' S) ∧
      wpSq P ops w K (sps.drop i) (ops.toList.drop (k + i)) F' (frameAt ops vals a (k + i))
  | 0, sps, k, F, _, h, _ => ⟨F, fun _ _ h _ => h, by simpa using h⟩
  | i + 1, [], k, F, _, _, hi => by simp at hi
  | i + 1, s :: sps, k, F, hv, h, hi => by
    cases hl : ops.toList.drop k with
    | nil => rw [hl] at h; cases s <;> exact h.elim
    | cons o rest =>
      have ho : ops[k]? = some o := by
        have := congrArg (fun l => l[0]?) hl
        simpa using this
      have hrest : rest = ops.toList.drop (k + 1) := by
        have := congrArg List.tail hl
        simpa using this.symm
      have hfr : ∀ v, vals k = v → (frameAt ops vals a k).put o.dst v = frameAt ops vals a (k + 1) := by
        intro v hvk
        simp only [frameAt, ho, Option.bind_some, hvk]
      have hdr : (s :: sps).drop (i + 1) = sps.drop i := rfl
      rw [hl] at h
      have hv2 : ∀ j v, sps[j]? = some (.val v) → vals (k + 1 + j) = v := fun j v hj => by
        have := hv (j + 1) v (by simpa using hj)
        rwa [show k + (j + 1) = k + 1 + j by omega] at this
      cases s with
      | val v =>
        simp only [wpSq] at h
        obtain ⟨_, h2⟩ := h
        have hvk : vals k = v := hv 0 v (by simp)
        rw [hfr v hvk, hrest] at h2
        obtain ⟨F', f1, f2⟩ := wpSq_at vals i sps (k + 1) F hv2 h2 (by simpa using hi)
        refine ⟨F', fun w' S hF hA => f1 w' S hF fun j A d hj hs hd hS => ?_, ?_⟩
        · have := hA (j + 1) A d (by omega) (by simpa using hs) (by rw [show k + (j + 1) = k + 1 + j by omega]; exact hd) hS
          rwa [show k + (j + 1) = k + 1 + j by omega] at this
        · rw [hdr, show k + (i + 1) = k + 1 + i by omega]; exact f2
      | rel A0 =>
        simp only [wpSq] at h
        obtain ⟨_, _, _, h2⟩ := h
        have h2 := h2 (vals k)
        rw [hfr _ rfl, hrest] at h2
        obtain ⟨F', f1, f2⟩ := wpSq_at vals i sps (k + 1) _ hv2 h2 (by simpa using hi)
        refine ⟨F', fun w' S hF hA => f1 w' S ⟨hF, fun d hd hS => ?_⟩ fun j A d hj hs hd hS => ?_, ?_⟩
        · exact hA 0 (.rel A0) d (by omega) (by simp) (by simpa [ho] using hd) hS
        · have := hA (j + 1) A d (by omega) (by simpa using hs) (by rw [show k + (j + 1) = k + 1 + j by omega]; exact hd) hS
          rwa [show k + (j + 1) = k + 1 + j by omega] at this
        · rw [hdr, show k + (i + 1) = k + 1 + i by omega]; exact f2
      | app m0 A0 =>
        simp only [wpSq] at h
        obtain ⟨_, _, _, h2⟩ := h
        have h2 := h2 (vals k)
        rw [hfr _ rfl, hrest] at h2
        obtain ⟨F', f1, f2⟩ := wpSq_at vals i sps (k + 1) _ hv2 h2 (by simpa using hi)
        refine ⟨F', fun w' S hF hA => f1 w' S ⟨hF, fun d hd hS => ?_⟩ fun j A d hj hs hd hS => ?_, ?_⟩
        · exact hA 0 (.app m0 A0) d (by omega) (by simp) (by simpa [ho] using hd) hS
        · have := hA (j + 1) A d (by omega) (by simpa using hs) (by rw [show k + (j + 1) = k + 1 + j by omega]; exact hd) hS
          rwa [show k + (j + 1) = k + 1 + j by omega] at this
        · rw [hdr, show k + (i + 1) = k + 1 + i by omega]; exact f2
      | mrk A0 =>
        simp only [wpSq] at h
        obtain ⟨_, _, _, h2⟩ := h
        have h2 := h2 (vals k)
        rw [hfr _ rfl, hrest] at h2
        obtain ⟨F', f1, f2⟩ := wpSq_at vals i sps (k + 1) _ hv2 h2 (by simpa using hi)
        refine ⟨F', fun w' S hF hA => f1 w' S ⟨hF, fun d hd hS => ?_⟩ fun j A d hj hs hd hS => ?_, ?_⟩
        · exact hA 0 (.mrk A0) d (by omega) (by simp) (by simpa [ho] using hd) hS
        · have := hA (j + 1) A d (by omega) (by simpa using hs) (by rw [show k + (j + 1) = k + 1 + j by omega]; exact hd) hS
          rwa [show k + (j + 1) = k + 1 + j by omega] at this
        · rw [hdr, show k + (i + 1) = k + 1 + i by omega]; exact f2

theorem region_app {id : Nat} {l : List Oper} {Q : Exit → Act → World → Prop} {a : Act} {w : World} (n : Nat) (hm : P.follows .mixedOrders = true) (hB : (regB l.toArray n && Region.noSelect l.toArray && apartB l.toArray n) = true) (hN : dstsB l.toArray n a.tmps.size = true)
    (sps : List Sq) (hl : sps.length = n) (hg : gAll l.toArray w.heap.size sps 0 sps)
    (h : wpSq P l.toArray w (fun F a' => ∀ w', Own w w' [] → F w' (fun _ => True) → wpList P l.toArray Q (l.drop n) a' w') sps l (fun _ _ => True) a) : (Code.region id l.toArray true).wp P Q a w := by
  simp only [Bool.and_eq_true] at hB
  obtain ⟨⟨hB, hsel⟩, hap⟩ := hB
  have hN' := dstsB_spec hN
  have h' : wpSq P l.toArray w (fun F a' => ∀ w', Own w w' [] → F w' (fun _ => True) → wpList P l.toArray Q (l.drop n) a' w') sps (l.toArray.toList.drop 0) (fun _ _ => True) (frameAt l.toArray (fun _ => undef) a 0) := by simpa [frameAt] using h
  have hat : ∀ (vals : Nat → Value), (∀ j v, sps[j]? = some (.val v) → vals j = v) → ∀ i, i ≤ n → _ := fun vals hv i hi =>
    wpSq_at (P := P) (ops := l.toArray) (w := w) (a := a) vals i sps 0 (fun _ _ => True) (fun j v hj => by rw [Nat.zero_add]; exact hv j v hj) h' (by omega)
  -- the values that go with a frame
  let A : Nat → Asn := fun i => match sps[i]? with | some s => s.asn | none => fun _ _ => True
  let vof : Act → Nat → Value := fun a' j => match sps[j]? with | some (.val v) => v | _ => match (l.toArray[j]?).bind (·.dst) with | some d => a'.tmps.getD d undef | none => undef
  have hvof : ∀ a' j v, sps[j]? = some (.val v) → vof a' j = v := fun a' j v hj => by simp only [vof, hj]
  have hfr : ∀ (a' : Act) (w' : World) (i s : Nat), i ≤ n → asnAt l.toArray (fun s _ v => v = a.tmps.getD s undef) A i s w' (a'.tmps.getD s undef) → a'.tmps.getD s undef = (frameAt l.toArray (vof a') a i).tmps.getD s undef := by
    intro a' w' i s hi hasn
    refine asnAt_frame' i (fun j o d hj => hN' j o d (by omega)) (fun j hj hd hA => ?_) hasn
    have hjs : j < sps.length := by omega
    simp only [A, List.getElem?_eq_getElem hjs] at hA
    simp only [vof, List.getElem?_eq_getElem hjs, hd]
    cases hs : sps[j] with
    | val v => rw [hs] at hA; exact hA
    | rel A0 => rfl
    | app m0 A0 => rfl
    | mrk A0 => rfl
  have hF : ∀ (a' : Act) (w' : World) (i : Nat) (S : Nat → Prop), i ≤ n → (∀ s, S s → asnAt l.toArray (fun s _ v => v = a.tmps.getD s undef) A i s w' (a'.tmps.getD s undef)) →
      ∀ j s d, j < i → sps[j]? = some s → l.toArray[0 + j]?.bind (·.dst) = some d → S d → s.asn w' (vof a' (0 + j)) := by
    intro a' w' i S hi hS j s d hj hs hd hSd
    rw [Nat.zero_add] at hd ⊢
    have h1 := asnAt_of (A := A) hap hd i hi hj (hS d hSd)
    simp only [A, hs] at h1
    cases s with
    | val v => simp only [vof, hs]; rfl
    | rel A0 => simp only [vof, hs, hd]; exact h1
    | app m0 A0 => simp only [vof, hs, hd]; exact h1
    | mrk A0 => simp only [vof, hs, hd]; exact h1
  have hmono : ∀ k, k < n → Mono (A k) := by
    intro k hk
    have hks : k < sps.length := by omega
    obtain ⟨F', _, f2⟩ := hat (vof a) (hvof a) k (by omega)
    simp only [A, List.getElem?_eq_getElem hks]
    rw [List.drop_eq_getElem_cons hks] at f2
    cases hs : sps[k] with
    | val v => exact Sq.mono_val v
    | rel A0 =>
      rw [hs] at f2
      cases hd : l.toArray.toList.drop (0 + k) with
      | nil => rw [hd] at f2; exact f2.elim
      | cons o rest => rw [hd] at f2; exact f2.1
    | app m0 A0 =>
      rw [hs] at f2
      cases hd : l.toArray.toList.drop (0 + k) with
      | nil => rw [hd] at f2; exact f2.elim
      | cons o rest => rw [hd] at f2; exact f2.1
    | mrk A0 =>
      rw [hs] at f2
      cases hd : l.toArray.toList.drop (0 + k) with
      | nil => rw [hd] at f2; exact f2.elim
      | cons o rest => rw [hd] at f2; exact f2.1
  refine region_rel n hm hB hN' (fun _ w' => Own w w' []) A ((Own.refl w).drew) ?_ ?_
  · intro i o hi ho listed a' w' hcl _ hnl hJ hasn
    have his : i < sps.length := by omega
    have hio : i < l.toArray.toList.length := by have := (Array.getElem?_eq_some_iff.1 ho).1; simpa using this
    have heq : ∀ s ∈ o.looksAt l.toArray, a'.tmps.getD s undef = (frameAt l.toArray (vof a') a i).tmps.getD s undef := fun s hs => hfr a' w' i s (by omega) (hasn s hs)
    obtain ⟨F', f1, f2⟩ := hat (vof a') (hvof a') i (by omega)
    have hFw := f1 w' (fun s => s ∈ o.looksAt l.toArray) trivial (hF a' w' i _ (by omega) hasn)
    have hsel' := Region.noSelect_spec hsel
    have hexec : execOp a'.eval o = execOp (frameAt l.toArray (vof a') a i).eval o := execOp_congr o (fun cs b => hsel' i o cs b ho) (fun x hx => by
      cases x with
      | tmp t => exact heq t (List.mem_append_left _ (List.mem_filterMap.2 ⟨.tmp t, by simpa using hx, rfl⟩))
      | _ => rfl)
    rw [wanted_congr heq]
    rw [Nat.zero_add, List.drop_eq_getElem_cons his, List.drop_eq_getElem_cons hio] at f2
    have hoe : l.toArray.toList[i] = o := by
      have := (Array.getElem?_eq_some_iff.1 ho).2
      simpa using this
    rw [hoe] at f2
    obtain ⟨d, hd⟩ := apartB_some hap hi
    have hod : o.dst = some d := by simpa [ho] using hd
    have hdlt : d < (frameAt l.toArray (vof a') a i).tmps.size := by rw [frameAt_size]; exact hN' i o d hi ho hod
    simp only [A, List.getElem?_eq_getElem his]
    cases hs : sps[i] with
    | val v =>
      rw [hs] at f2
      obtain ⟨f2, _⟩ := f2
      have hq := f2 w' hJ hFw
      split at hq
      · rename_i hw
        rw [if_pos hw]
        unfold YieldsTo at hq ⊢
        rw [hexec]
        generalize (execOp (frameAt l.toArray (vof a') a i).eval o).run P w' = r at *
        cases r with
        | halt x w'' => exact hq.elim
        | ok nx w'' =>
          cases nx <;> simp only at hq ⊢
          case value x => exact ⟨hq.1, hJ.trans hq.2, fun k hk _ _ v h => hmono k hk _ _ _ hq.2 h⟩
          case skip => exact ⟨hq.1, hJ.trans hq.2, fun k hk _ _ v h => hmono k hk _ _ _ hq.2 h⟩
          case enter f args => exact hq.mono fun e w3 ⟨u, he, h1, h2⟩ => ⟨u, he, h1, hJ.trans h2, fun k hk _ _ v h => hmono k hk _ _ _ h2 h⟩
      · rename_i hw
        rw [if_neg hw]
        exact ⟨hq, hJ⟩
    | rel A0 =>
      rw [hs] at f2
      obtain ⟨_, hw, f3, _⟩ := f2
      rw [if_pos hw]
      have hy := f3 w' hJ hFw
      unfold YieldsTo at hy ⊢
      rw [hexec]
      generalize (execOp (frameAt l.toArray (vof a') a i).eval o).run P w' = r at *
      cases r with
      | halt x w'' => exact hy.elim
      | ok nx w'' =>
        cases nx <;> simp only at hy ⊢
        case value x => exact ⟨hy.2, hJ.trans hy.1, fun k hk _ _ v h => hmono k hk _ _ _ hy.1 h⟩
        case skip => exact ⟨hy.2, hJ.trans hy.1, fun k hk _ _ v h => hmono k hk _ _ _ hy.1 h⟩
        case enter f args => exact hy.mono fun e w3 ⟨v, he, h1, h2⟩ => ⟨v, he, h2, hJ.trans h1, fun k hk _ _ v h => hmono k hk _ _ _ h1 h⟩
    | app m0 A0 =>
      rw [hs] at f2
      obtain ⟨_, hw, f3, _⟩ := f2
      rw [if_pos hw]
      have hy := f3 w' hJ hFw
      have hpres : ∀ w'', Gr w.heap.size m0 w' w'' → ∀ k, k < n → k ≠ i → listed.getD k false = true → ∀ v, A k w' v → A k w'' v := by
        intro w'' hgr k hk hki hlk v hv
        have hks : k < sps.length := by omega
        have hrow := gAll_at sps 0 hg i m0 A0 (by rw [List.getElem?_eq_getElem his, hs])
        rw [Nat.zero_add] at hrow
        have h3 := gRow_at sps 0 hrow k sps[k] (List.getElem?_eq_getElem hks)
        rw [Nat.zero_add] at h3
        simp only [A, List.getElem?_eq_getElem hks] at hv ⊢
        rcases h3 with h3 | h3 | h3
        · exact absurd h3 hki
        · have := hcl k i h3 hlk
          rw [hnl] at this
          cases this
        · cases hsk : sps[k] with
          | val v0 => rw [hsk] at hv; exact hv
          | rel A1 => rw [hsk] at hv h3; exact h3 w' w'' v hgr hv
          | app m1 A1 => rw [hsk] at hv h3; exact h3 w' w'' v hgr hv
          | mrk A1 => rw [hsk] at hv h3; exact h3 w' w'' v hgr hv
      unfold YieldsTo at hy ⊢
      rw [hexec]
      generalize (execOp (frameAt l.toArray (vof a') a i).eval o).run P w' = r at *
      cases r with
      | halt x w'' => exact hy.elim
      | ok nx w'' =>
        cases nx <;> simp only at hy ⊢
        case value x => exact ⟨hy.2, hy.1.own hJ, hpres _ hy.1⟩
        case skip => exact ⟨hy.2, hy.1.own hJ, hpres _ hy.1⟩
        case enter f args => exact hy.mono fun e w3 ⟨v, he, h1, h2⟩ => ⟨v, he, h2, h1.own hJ, hpres _ h1⟩
    | mrk A0 =>
      rw [hs] at f2
      obtain ⟨_, hw, f3, _⟩ := f2
      rw [if_pos hw]
      have hy := f3 w' hJ hFw
      have hpres : ∀ w'', Mk w.heap.size w' w'' → ∀ k, k < n → k ≠ i → listed.getD k false = true → ∀ v, A k w' v → A k w'' v := by
        intro w'' hgr k hk hki hlk v hv
        have hks : k < sps.length := by omega
        have hrow := gAll_atM sps 0 hg i A0 (by rw [List.getElem?_eq_getElem his, hs])
        rw [Nat.zero_add] at hrow
        have h3 := mRow_at sps 0 hrow k sps[k] (List.getElem?_eq_getElem hks)
        rw [Nat.zero_add] at h3
        simp only [A, List.getElem?_eq_getElem hks] at hv ⊢
        rcases h3 with h3 | h3 | h3
        · exact absurd h3 hki
        · have := hcl k i h3 hlk
          rw [hnl] at this
          cases this
        · cases hsk : sps[k] with
          | val v0 => rw [hsk] at hv; exact hv
          | rel A1 => rw [hsk] at hv h3; exact h3 w' w'' v hgr hv
          | app m1 A1 => rw [hsk] at hv h3; exact h3 w' w'' v hgr hv
          | mrk A1 => rw [hsk] at hv h3; exact h3 w' w'' v hgr hv
      unfold YieldsTo at hy ⊢
      rw [hexec]
      generalize (execOp (frameAt l.toArray (vof a') a i).eval o).run P w' = r at *
      cases r with
      | halt x w'' => exact hy.elim
      | ok nx w'' =>
        cases nx <;> simp only at hy ⊢
        case value x => exact ⟨hy.2, hy.1.own hJ, hpres _ hy.1⟩
        case skip => exact ⟨hy.2, hy.1.own hJ, hpres _ hy.1⟩
        case enter f args => exact hy.mono fun e w3 ⟨v, he, h1, h2⟩ => ⟨v, he, h2, h1.own hJ, hpres _ h1⟩
  · intro listed a' w' _ hJ hs hd hasn
    have : a' = frameAt l.toArray (vof a') a n := by
      have h1 := frameAt_size (ops := l.toArray) (vals := vof a') (a := a) n
      have h2 := frameAt_defers (ops := l.toArray) (vals := vof a') (a := a) n
      have h3 : a'.tmps = (frameAt l.toArray (vof a') a n).tmps := by
        apply Array.ext
        · omega
        · intro j hj1 hj2
          have := hfr a' w' n j (Nat.le_refl _) (hasn j)
          simpa [hj1, hj2] using this
      generalize frameAt l.toArray (vof a') a n = fr at h2 h3
      obtain ⟨t1, d1⟩ := a'
      obtain ⟨t3, d3⟩ := fr
      simp only at h2 h3 hd
      rw [h3, hd, h2]
    obtain ⟨F', f1, f2⟩ := hat (vof a') (hvof a') n (Nat.le_refl _)
    have hFw := f1 w' (fun _ => True) trivial (hF a' w' n _ (Nat.le_refl _) (fun s _ => hasn s))
    have hd0 : sps.drop n = [] := List.drop_of_length_le (by omega)
    rw [hd0] at f2
    simp only [wpSq] at f2
    rw [Nat.zero_add, ← this] at f2
    simpa using f2 w' hJ hFw

/-! ### The steps -/
variable {w : World} {K : (World → (Nat → Prop) → Prop) → Act → Prop} {sps : List Sq} {o : Oper} {rest : List Oper} {F : World → (Nat → Prop) → Prop} {a : Act} {v : Value}

/-- an operation that hangs on no world: it is walked as in a quiet region -/
theorem sq_val (h1 : ∀ w', Own w w' [] → F w' (fun s => s ∈ o.looksAt ops) → wpQuiet P ops (fun w'' => w'' = w') (fun a' => a' = a.put o.dst v) [o] a) (hd : ∃ d, o.dst = some d ∧ d < a.tmps.size)
    (h2 : wpSq P ops w K sps rest F (a.put o.dst v)) : wpSq P ops w K (.val v :: sps) (o :: rest) F a := by
  refine ⟨fun w' hw' hF => ?_, h2⟩
  obtain ⟨d, hd1, hd2⟩ := hd
  have hput : ∀ u, a.put o.dst u = a.put o.dst v → u = v := by
    intro u hu
    have := congrArg (fun x : Act => x.tmps[d]?) hu
    simpa [Act.put, hd1, hd2] using this
  have hq := h1 w' hw' hF
  unfold wpQuiet at hq
  split at hq
  · rename_i hw
    rw [if_pos hw]
    obtain ⟨u, hu1, hu2⟩ := hq
    obtain rfl := hput u hu2
    have hq' := hu1 w' rfl
    unfold Oper.quietAt at hq'
    unfold YieldsTo
    generalize (execOp a.eval o).run P w' = r at *
    cases r with
    | halt x w'' => exact hq'.elim
    | ok nx w'' =>
      cases nx <;> simp only [Oper.quietUpon] at hq' ⊢
      case value x => obtain ⟨rfl, rfl⟩ := hq'; exact ⟨rfl, Own.refl _⟩
      case skip => obtain ⟨rfl, hv⟩ := hq'; exact ⟨hv.symm, Own.refl _⟩
      case enter f args =>
        obtain ⟨rfl, hc⟩ := hq'
        exact hc.mono fun e w3 ⟨he, hc3⟩ => ⟨_, he, rfl, by rw [hc3]; exact Own.refl _⟩
  · rename_i hw
    rw [if_neg hw]
    exact hput _ hq

/-- an operation whose value is known by a run lemma -/
theorem sq_run (hw : Region.wanted o (yielded ops a.tmps) = true) (hrun : ∀ w', Own w w' [] → F w' (fun s => s ∈ o.looksAt ops) → (execOp a.eval o).run P w' = .ok (.value v) w')
    (h2 : wpSq P ops w K sps rest F (a.put o.dst v)) : wpSq P ops w K (.val v :: sps) (o :: rest) F a := by
  refine ⟨fun w' hw' hF => ?_, h2⟩
  rw [if_pos hw]
  exact yieldsTo_val (hrun w' hw' hF) ⟨rfl, Own.refl _⟩

theorem sq_skip (hw : Region.wanted o (yielded ops a.tmps) = false) (h2 : wpSq P ops w K sps rest F (a.put o.dst undef)) : wpSq P ops w K (.val undef :: sps) (o :: rest) F a := by
  refine ⟨fun w' hw' hF => ?_, h2⟩
  rw [if_neg (by rw [hw]; exact Bool.false_ne_true)]

/-- a call whose value is known -/
theorem sq_call (hw : Region.wanted o (yielded ops a.tmps) = true) {f : Nat} {args : Array Value} (hrun : ∀ w', (execOp a.eval o).run P w' = .ok (.enter f args) w')
    (h1 : ∀ w', Own w w' [] → F w' (fun s => s ∈ o.looksAt ops) → Calls P f args w' fun e w'' => e = .returned v ∧ Own w' w'' [])
    (h2 : wpSq P ops w K sps rest F (a.put o.dst v)) : wpSq P ops w K (.val v :: sps) (o :: rest) F a := by
  refine ⟨fun w' hw' hF => ?_, h2⟩
  rw [if_pos hw]
  unfold YieldsTo
  rw [hrun w']
  exact (h1 w' hw' hF).mono fun e w'' ⟨he, h⟩ => ⟨_, he, rfl, h⟩

/-- a call of a function that the source names -/
theorem sq_callN (hw : Region.wanted o (yielded ops a.tmps) = true) {f : Nat} {fn : Func} {xs : Array Operand} {ats : Array TypeId} {args : Array Value} (hop : o.op = .call { callee := .value (.func f), args := xs, argTypes := ats }) (hargs : xs.map a.eval = args)
    (hf : P.funcs[f]? = some fn) (hname : (fn.name == "runtime.NumGoroutine") = false) (hb : fn.body.isNone = false)
    (h1 : ∀ w', Own w w' [] → F w' (fun s => s ∈ o.looksAt ops) → Calls P f args w' fun e w'' => e = .returned v ∧ Own w' w'' [])
    (h2 : wpSq P ops w K sps rest F (a.put o.dst v)) : wpSq P ops w K (.val v :: sps) (o :: rest) F a :=
  sq_call hw (fun w' => by rw [Conc.run_call_body hop hf hname hb, hargs]) h1 h2

/-- an operation whose value is known by an assertion -/
theorem sq_rel {A : World → Value → Prop} (hm : Mono A) (hw : Region.wanted o (yielded ops a.tmps) = true) (h1 : ∀ w', Own w w' [] → F w' (fun s => s ∈ o.looksAt ops) → YieldsTo P o a w' (fun v w'' => Own w' w'' [] ∧ A w'' v))
    (h2 : ∀ v, wpSq P ops w K sps rest (fun w' S => F w' S ∧ ∀ d, o.dst = some d → S d → A w' v) (a.put o.dst v)) : wpSq P ops w K (.rel A :: sps) (o :: rest) F a := ⟨hm, hw, h1, h2⟩

/-- a slice literal -/
theorem sq_lit {t el : TypeId} {len : Nat} {parts : Array (Nat × Operand)} (hg : o.guard = none) (ho : o.op = .buildSlice t len parts) {cs : List Value} (hl : len = cs.length)
    (hf : ∀ w', (Instr.buildSlice t len (parts.map fun (i, x) => (i, a.eval x))).run P w' = .ok (.slice (some ⟨w'.heap.size, 0, none⟩) len len) (w'.alloc (.cells cs.toArray el)))
    (h2 : ∀ v, wpSq P ops w K sps rest (fun w' S => F w' S ∧ ∀ d, o.dst = some d → S d → SlIs len cs w' v) (a.put o.dst v)) : wpSq P ops w K (.rel (SlIs len cs) :: sps) (o :: rest) F a := by
  refine sq_rel (SlIs.mono _ _) (by simp [Region.wanted, hg]) (fun w' hw' hF => ?_) h2
  obtain ⟨n, w1, hr, hn, ho1⟩ := rn_buildSlice (o := o) (a := a) (Own.refl w') ho hf
  refine yieldsTo_val' hr ⟨ho1.end0 (by simpa using hn), ⟨_, _, rfl⟩, ?_⟩
  subst hl
  exact Or.inr ⟨n, 0, cs.length, rfl, ⟨Nat.le_refl _, List.eq_nil_of_length_eq_zero⟩, fun i x hx => by rw [ho1.cell (.head _), Nat.zero_add]; exact hx⟩

theorem sq_nil (h : K F a) {l : List Oper} : wpSq P ops w K [] l F a := by
  cases l <;> exact h

theorem sq_app {m : Nat} {A : World → Value → Prop} (hm : Mono A) (hw : Region.wanted o (yielded ops a.tmps) = true) (h1 : ∀ w', Own w w' [] → F w' (fun s => s ∈ o.looksAt ops) → YieldsTo P o a w' (fun v w'' => Gr w.heap.size m w' w'' ∧ A w'' v))
    (h2 : ∀ v, wpSq P ops w K sps rest (fun w' S => F w' S ∧ ∀ d, o.dst = some d → S d → A w' v) (a.put o.dst v)) : wpSq P ops w K (.app m A :: sps) (o :: rest) F a := ⟨hm, hw, h1, h2⟩

theorem sq_mrk {A : World → Value → Prop} (hm : Mono A) (hw : Region.wanted o (yielded ops a.tmps) = true) (h1 : ∀ w', Own w w' [] → F w' (fun s => s ∈ o.looksAt ops) → YieldsTo P o a w' (fun v w'' => Mk w.heap.size w' w'' ∧ A w'' v))
    (h2 : ∀ v, wpSq P ops w K sps rest (fun w' S => F w' S ∧ ∀ d, o.dst = some d → S d → A w' v) (a.put o.dst v)) : wpSq P ops w K (.mrk A :: sps) (o :: rest) F a := ⟨hm, hw, h1, h2⟩

/-- a call whose value is known by an assertion -/
theorem sq_callR {A : World → Value → Prop} (hm : Mono A) (hw : Region.wanted o (yielded ops a.tmps) = true) {f : Nat} {fn : Func} {xs : Array Operand} {ats : Array TypeId} {args : Array Value} (hop : o.op = .call { callee := .value (.func f), args := xs, argTypes := ats }) (hargs : xs.map a.eval = args)
    (hf : P.funcs[f]? = some fn) (hname : (fn.name == "runtime.NumGoroutine") = false) (hb : fn.body.isNone = false)
    (h1 : ∀ w', Own w w' [] → F w' (fun s => s ∈ o.looksAt ops) → Calls P f args w' fun e w'' => ∃ r, e = .returned r ∧ A w'' r ∧ Own w' w'' [])
    (h2 : ∀ v, wpSq P ops w K sps rest (fun w' S => F w' S ∧ ∀ d, o.dst = some d → S d → A w' v) (a.put o.dst v)) : wpSq P ops w K (.rel A :: sps) (o :: rest) F a := by
  refine sq_rel hm hw (fun w' hw' hF => ?_) h2
  unfold YieldsTo
  rw [Conc.run_call_body hop hf hname hb, hargs]
  exact (h1 w' hw' hF).mono fun e w'' ⟨r, he, hA, ho⟩ => ⟨r, he, ho, hA⟩

end
end Go.Proofs.Ytokichlmgepdpaa

/-! 'append' within a region that draws its order. No dump, no condition. -/
namespace Go.Proofs.Ytokichlmgepdpaa
open Go.RowKit

section
variable {P : Program} {ops : Array Oper} {rest : List Oper} {o : Oper} {a : Act} {w w1 : World} {e : TypeId} {k : IntKind} {v xv : Value} {xs ys : List Int}

theorem Own.newobj (w : World) (x : Obj) : Own w (w.drew.alloc x) [] :=
  ⟨rfl, rfl, rfl, by show w.heap.size ≤ (w.heap.push x).size; rw [Array.size_push]; omega, fun k hk _ => Below.heap_alloc w.drew x k hk, List.nodup_nil, fun _ _ _ h => by cases h⟩

theorem append_gr (E : Buf e k w w1 [] v xs) {by_ : Nat} (he : Elem P e 1 by_) {s x : Operand} {t : TypeId} (ho : o.op = .call { callee := .builtin .append, args := #[s, x], argTypes := #[t, t] })
    (ht : P.underlying t = some (.slice e)) (hs : a.eval s = v) (hx : a.eval x = xv) (hsrc : SlAt w1 xv ys.length (ints k ys)) (hbytes : (xs.length + ys.length) * by_ ≤ 140737488355328) (h63 : xs.length + ys.length ≤ 140737488355328) :
    ∃ v' w2, (execOp a.eval o).run P w1 = .ok (.value v') w2 ∧ Gr w.heap.size xs.length w1 w2 := by
  obtain ⟨⟨i, z, hi, hz, hsz, rfl, hzs⟩, hpos⟩ := he
  obtain ⟨dst, op, ty, pos, aft, guard⟩ := o
  simp only at ho
  subst ho
  have hrun : ∀ r, (Builtin.append_ #[t, t] ty #[v, xv]).run P w1 = r → (execOp a.eval ⟨dst, .call { callee := .builtin .append, args := #[s, x], argTypes := #[t, t] }, ty, pos, aft, guard⟩).run P w1 = r.andThen fun v w => .ok (.value v) w := by
    intro r hr
    have e1 : execOp a.eval ⟨dst, .call { callee := .builtin .append, args := #[s, x], argTypes := #[t, t] }, ty, pos, aft, guard⟩ = builtin .append #[t, t] ty ((#[s, x] : Array Operand).map fun | .const _ => true | _ => false) ((#[s, x] : Array Operand).map a.eval) := rfl
    rw [e1]
    simp only [List.map_toArray, List.map_cons, List.map_nil, hs, hx, builtin, Sem.run_bind, hr]
    cases r <;> rfl
  have hrefl : Gr w.heap.size xs.length w1 w1 := Or.inl (Own.refl w1)
  obtain ⟨Lv, ⟨hxl, ⟨rfl, h2, rfl⟩ | ⟨g, cap, cs, rfl, rfl, hn, hcap, hc, htk⟩⟩, H, hd⟩ := E
  · have hx0 : xs = [] := List.eq_nil_of_length_eq_zero h2
    subst hx0
    rcases hsrc with ⟨⟨p, rfl⟩, h0, _⟩ | ⟨b, off, c, rfl, _, hcell⟩
    · refine ⟨.slice none 0 0, w1, ?_, hrefl⟩
      rw [hrun (.ok (.slice none 0 0) w1)]
      · rfl
      · cases p <;> simp [Builtin.append_, run_underlying ht, sizeOf, typeInfo, hi, Builtin.lenOf, Builtin.firstCells, loadCells, loadCellsFrom]
    · by_cases hm0 : ys.length = 0
      · refine ⟨.slice none 0 0, w1, ?_, hrefl⟩
        rw [hrun (.ok (.slice none 0 0) w1)]
        · rfl
        · rw [hm0]; simp [Builtin.append_, run_underlying ht, sizeOf, typeInfo, hi, Builtin.lenOf, Builtin.firstCells, loadCells, loadCellsFrom]
      · have hr := run_append_nil (P := P) w1 t ty e i z ht hi hz ⟨b, off, none⟩ ys.length c (ints k ys) (by rw [hsz]; simp) (fun j v hv => by rw [add_plain]; exact hcell j v hv) (by omega) (by simp at h63; omega) (by simp at hbytes; omega)
        exact ⟨_, _, hrun _ hr, Or.inl (Own.newobj w1 _)⟩
  · have hcell0 : ∀ j v, (ints k xs)[j]? = some v → w1.cell? ((⟨g, 0, none⟩ : Addr).add j) = some v := by
      intro j v hv
      rw [add_plain, Nat.zero_add, H.cell (cs := cs) (T := e) (by simp)]
      rw [← htk, List.getElem?_take] at hv
      split at hv
      · exact hv
      · cases hv
    rcases hsrc with ⟨⟨p, rfl⟩, h0, _⟩ | ⟨b, off, c, rfl, _, hcell⟩
    · refine ⟨.slice (some ⟨g, 0, none⟩) xs.length cap, w1, ?_, hrefl⟩
      rw [hrun (.ok (.slice (some ⟨g, 0, none⟩) xs.length cap) w1)]
      · rfl
      · cases p <;> simp [Builtin.append_, run_underlying ht, sizeOf, typeInfo, hi, Builtin.lenOf, Builtin.firstCells, hn, storeCells, loadCells, loadCellsFrom]
    · by_cases hroom : xs.length + ys.length ≤ cap
      · have hb := H.here g cs e (by simp)
        have hfit : xs.length * i.size + (ints k ys).length ≤ cs.length := by rw [hsz, hc, length_ints]; omega
        have hr := run_append_room (P := P) w1 t ty e i ht hi g xs.length cap cs.toArray hb ⟨b, off, none⟩ ys.length c (ints k ys) (by rw [hsz]; simp) (fun j v hv => by rw [add_plain]; exact hcell j v hv) (oneCell_ints k ys) hroom (by simpa using hfit)
        have h2 := (Own.one hb).set (At.head (L := []) (cs' := cs.take (xs.length * i.size) ++ ints k ys ++ cs.drop (xs.length * i.size + (ints k ys).length)))
        refine ⟨_, _, hrun _ hr, Or.inr ⟨g, cs, cs.take (xs.length * i.size) ++ ints k ys ++ cs.drop (xs.length * i.size + (ints k ys).length), e, ?_, hb, by simpa using h2, ?_, ?_⟩⟩
        · exact hd g (by simp)
        · simp only [List.length_append, List.length_take, List.length_drop]; omega
        · rw [hsz, Nat.mul_one, List.append_assoc, List.take_append_of_le_length (by simp; omega), List.take_take, Nat.min_self]
      · have hr := run_append_grow (P := P) w1 t ty e i z ht hi hz ⟨g, 0, none⟩ xs.length cap (ints k xs) (by rw [hsz]; simp) hcell0 ⟨b, off, none⟩ ys.length c (ints k ys) (by rw [hsz]; simp) (fun j v hv => by rw [add_plain]; exact hcell j v hv) (by omega) (by omega) (growslice_fits (by omega) hbytes)
        exact ⟨_, _, hrun _ hr, Or.inl (Own.newobj w1 _)⟩

/-- append, and what it makes -/
theorem append_both (E : Buf e k w w1 [] v xs) {by_ : Nat} (he : Elem P e 1 by_) {s x : Operand} {t : TypeId} (ho : o.op = .call { callee := .builtin .append, args := #[s, x], argTypes := #[t, t] })
    (ht : P.underlying t = some (.slice e)) (hs : a.eval s = v) (hx : a.eval x = xv) (hsrc : SlAt w1 xv ys.length (ints k ys)) (hbytes : (xs.length + ys.length) * by_ ≤ 140737488355328) (h63 : xs.length + ys.length ≤ 140737488355328) :
    YieldsTo P o a w1 (fun v' w2 => Gr w.heap.size xs.length w1 w2 ∧ Buf e k w w2 [] v' (xs ++ ys)) := by
  obtain ⟨v1, w2, hr, hg⟩ := append_gr E he ho ht hs hx hsrc hbytes h63
  obtain ⟨Lv, h1, h2, h3⟩ := E
  obtain ⟨v', w', Lv', hrun, f1, f2, f3⟩ := rn_append he h2 ho ht hs hx h1 hsrc (by simp [ints]) (oneCell_ints _ _) hbytes h63 h3
  rw [hr] at hrun
  cases hrun
  refine yieldsTo_val' hr ⟨hg, Lv', ?_, f2, f3⟩
  rw [List.length_append, ints_append]
  exact f1

/-- a slice literal of the region's own -/
theorem buildSlice_buf (hw : Own w w1 []) {t : TypeId} {len : Nat} {parts : Array (Nat × Operand)} (ho : o.op = .buildSlice t len parts) (hl : len = xs.length) (hm : xs.length ≤ 140737488355328)
    (hf : ∀ w', (Instr.buildSlice t len (parts.map fun (i, x) => (i, a.eval x))).run P w' = .ok (.slice (some ⟨w'.heap.size, 0, none⟩) len len) (w'.alloc (.cells (ints k xs).toArray e))) :
    YieldsTo P o a w1 (fun v' w2 => Own w1 w2 [] ∧ Buf e k w w2 [] v' xs) := by
  subst hl
  obtain ⟨n, w2, hr, hn, ho1⟩ := rn_buildSlice (o := o) (a := a) (Own.refl w1) ho hf
  obtain ⟨n', w2', hr', hn', ho1'⟩ := rn_buildSlice (o := o) (a := a) hw ho hf
  rw [hr] at hr'
  cases hr'
  exact yieldsTo_val' hr ⟨ho1.end0 (by simpa using hn), Buf.lit ho1' hn' hm⟩
end

section
variable {P : Program} {ops : Array Oper} {w : World} {K : (World → (Nat → Prop) → Prop) → Act → Prop} {sps : List Sq} {o : Oper} {rest : List Oper} {F : World → (Nat → Prop) → Prop} {a : Act} {e : TypeId} {k : IntKind} {v xv : Value} {xs ys : List Int}

theorem Buf.mono : Mono (fun w' v => Buf e k w w' [] v xs) := fun _ _ _ h hb => hb.call0 h

theorem sq_litB {t : TypeId} {len : Nat} {parts : Array (Nat × Operand)} (hw : Region.wanted o (yielded ops a.tmps) = true) (ho : o.op = .buildSlice t len parts) (hl : len = xs.length) (hm : xs.length ≤ 140737488355328)
    (hf : ∀ w', (Instr.buildSlice t len (parts.map fun (i, x) => (i, a.eval x))).run P w' = .ok (.slice (some ⟨w'.heap.size, 0, none⟩) len len) (w'.alloc (.cells (ints k xs).toArray e)))
    (h2 : ∀ v, wpSq P ops w K sps rest (fun w' S => F w' S ∧ ∀ d, o.dst = some d → S d → Buf e k w w' [] v xs) (a.put o.dst v)) : wpSq P ops w K (.rel (fun w' v => Buf e k w w' [] v xs) :: sps) (o :: rest) F a :=
  sq_rel Buf.mono hw (fun _ hw' _ => buildSlice_buf hw' ho hl hm hf) h2

/-- what a slice of old memory reads as: it hangs on no later world -/
def OldIs (w : World) (k : IntKind) (xs : List Int) : World → Value → Prop := fun _ v => (∃ p c, v = .slice p xs.length c) ∧ SlAt w v xs.length (ints k xs) ∧ ∀ j, blk v = some j → j < w.heap.size
theorem OldIs.mono (w : World) (k : IntKind) (xs : List Int) : Mono (OldIs w k xs) := fun _ _ _ _ h => h
theorem OldIs.at {w1 : World} (h : OldIs w k xs w1 v) (ho : Own w w1 []) : SlAt w1 v xs.length (ints k xs) := SlAt.own h.2.1 ho (by simp)

/-- an operation that leaves the world, and yields a part of old memory -/
theorem sq_old (hw : Region.wanted o (yielded ops a.tmps) = true) (hrun : ∃ p c, (∀ w', (execOp a.eval o).run P w' = .ok (.value (.slice p xs.length c)) w') ∧ SlAt w (.slice p xs.length c) xs.length (ints k xs) ∧ ∀ j, blk (Value.slice p xs.length c) = some j → j < w.heap.size)
    (h2 : ∀ v, wpSq P ops w K sps rest (fun w' S => F w' S ∧ ∀ d, o.dst = some d → S d → OldIs w k xs w' v) (a.put o.dst v)) : wpSq P ops w K (.rel (OldIs w k xs) :: sps) (o :: rest) F a := by
  obtain ⟨p, c, hrun, h3, h4⟩ := hrun
  exact sq_rel (OldIs.mono w k xs) hw (fun w' _ _ => yieldsTo_val' (hrun w') ⟨Own.refl w', ⟨_, _, rfl⟩, h3, h4⟩) h2

end
end Go.Proofs.Ytokichlmgepdpaa

/-! 'append(b, s...)' of a string's bytes. No dump, no condition. -/
namespace Go.Proofs.Ytokichlmgepdpaa
open Go.RowKit Go.Lib

theorem strCells_nums (s : ByteArray) : strCells s = ints .u8 (numsOf s) := by
  unfold strCells ints numsOf
  rw [List.map_map]
  rfl

section
variable {P : Program} {ops : Array Oper} {rest : List Oper} {o : Oper} {a : Act} {w w1 : World} {e : TypeId} {k : IntKind} {v xv : Value} {xs ys : List Int}

theorem fresh_buf (Hw : Own w w1 []) {n old : Nat} (hn : n = xs.length) {z : Value} (hz1 : z.cells.size = 1) {arr : Array Value} (harr : arr.toList = ints k xs ++ (Builtin.zeroCells z.cells (grownCap w1 n old e - n)).toList) (h63 : n ≤ 140737488355328) :
    Buf e k w (w1.drew.alloc (.cells arr e)) [] (.slice (some ⟨w1.heap.size, 0, none⟩) n (grownCap w1 n old e)) xs := by
  have hge := grownCap_ge w1 n old e
  have hle := grownCap_le_maxLen w1 n old e (Nat.le_trans h63 (by decide))
  generalize grownCap w1 n old e = cp at *
  subst hn
  have hz0 : (Builtin.zeroCells z.cells (cp - xs.length)).toList.length = cp - xs.length := by rw [Array.length_toList, size_zeroCells, hz1, Nat.mul_one]
  have h2 := Hw.drew.alloc arr.toList e
  rw [show arr.toList.toArray = arr by simp] at h2
  refine ⟨[(w1.heap.size, arr.toList, e)], ⟨by simp, Or.inr ⟨_, _, _, rfl, rfl, hge, hle, ?_, ?_⟩⟩, h2, ?_⟩
  · rw [harr, List.length_append, hz0, length_ints]; omega
  · rw [harr, Nat.mul_one]
    exact List.take_left' (length_ints _ _)
  · intro j hj
    simp at hj
    have := Hw.size
    omega

/-- append of a string's bytes -/
theorem append_str (E : Buf e .u8 w w1 [] v xs) (he : Elem P e 1 1) {s x : Operand} {t u : TypeId} (ho : o.op = .call { callee := .builtin .append, args := #[s, x], argTypes := #[t, u] })
    (ht : P.underlying t = some (.slice e)) (hu : P.underlying u = some .string) (hs : a.eval s = v) {b : ByteArray} (hx : a.eval x = .string b) (h0 : 0 < b.size) (h63 : xs.length + b.size ≤ 140737488355328) :
    YieldsTo P o a w1 (fun v' w2 => Gr w.heap.size xs.length w1 w2 ∧ Buf e .u8 w w2 [] v' (xs ++ numsOf b)) := by
  obtain ⟨⟨i, z, hi, hz, hsz, hby, hzs⟩, hpos⟩ := he
  obtain ⟨dst, op, ty, pos, aft, guard⟩ := o
  simp only at ho
  subst ho
  have hrun : ∀ r, (Builtin.append_ #[t, u] ty #[v, .string b]).run P w1 = r → (execOp a.eval ⟨dst, .call { callee := .builtin .append, args := #[s, x], argTypes := #[t, u] }, ty, pos, aft, guard⟩).run P w1 = r.andThen fun v w => .ok (.value v) w := by
    intro r hr
    have e1 : execOp a.eval ⟨dst, .call { callee := .builtin .append, args := #[s, x], argTypes := #[t, u] }, ty, pos, aft, guard⟩ = builtin .append #[t, u] ty ((#[s, x] : Array Operand).map fun | .const _ => true | _ => false) ((#[s, x] : Array Operand).map a.eval) := rfl
    rw [e1]
    simp only [List.map_toArray, List.map_cons, List.map_nil, hs, hx, builtin, Sem.run_bind, hr]
    cases r <;> rfl
  have hlen : (xs ++ numsOf b).length = xs.length + b.size := by rw [List.length_append, length_numsOf]
  have hb0 : Own w w1 [] := by obtain ⟨Lv, _, h2, h3⟩ := E; exact h2.drop h3
  obtain ⟨Lv, ⟨hxl, ⟨rfl, h2, rfl⟩ | ⟨g, cap, cs, rfl, rfl, hn, hcap, hc, htk⟩⟩, H, hd⟩ := E
  · have hx0 : xs = [] := List.eq_nil_of_length_eq_zero h2
    subst hx0
    have hr := run_append_nil_string (P := P) w1 t u ty e i z ht hu hi hz b h0 (by simp at h63; omega) (by rw [hby]; simp at h63; omega)
    refine yieldsTo_val' (hrun _ hr) ⟨Or.inl (Own.newobj w1 _), ?_⟩
    refine fresh_buf hb0 (by rw [hlen]; simp) hzs ?_ (by simp at h63; omega)
    rw [List.nil_append, ← strCells_nums, Array.toList_append]
    simp [strCells]
  · by_cases hroom : xs.length + b.size ≤ cap
    · have hb := H.here g cs e (by simp)
      have hr := run_append_room_string (P := P) w1 t u ty e i ht hu hi hsz g xs.length cap cs.toArray hb b hroom (by simp; omega)
      have h2 := (Own.one hb).set (At.head (L := []) (cs' := cs.take xs.length ++ strCells b ++ cs.drop (xs.length + b.size)))
      have h3 := H.set (At.left (At.head (L := []) (cs' := cs.take xs.length ++ strCells b ++ cs.drop (xs.length + b.size))) (M := []))
      have hl2 : (cs.take xs.length ++ strCells b ++ cs.drop (xs.length + b.size)).length = cs.length := by
        simp only [List.length_append, List.length_take, List.length_drop, strCells_length]; omega
      refine yieldsTo_val' (hrun _ hr) ⟨Or.inr ⟨g, cs, cs.take xs.length ++ strCells b ++ cs.drop (xs.length + b.size), e, hd g (by simp), hb, by simpa using h2, hl2, ?_⟩, ?_⟩
      · rw [List.append_assoc, List.take_append_of_le_length (by simp; omega), List.take_take, Nat.min_self]
      · refine ⟨[(g, cs.take xs.length ++ strCells b ++ cs.drop (xs.length + b.size), e)], ⟨by simp, Or.inr ⟨g, cap, _, by rw [hlen], rfl, by rw [hlen]; exact hroom, hcap, by rw [hl2]; exact hc, ?_⟩⟩, by simpa using h3, hd⟩
        rw [hlen, Nat.mul_one, List.take_left' (by simp only [List.length_append, List.length_take, strCells_length]; omega), ints_append, ← strCells_nums]
        rw [Nat.mul_one] at htk
        rw [htk]
    · have hcell0 : ∀ j v, (ints .u8 xs)[j]? = some v → w1.cell? ((⟨g, 0, none⟩ : Addr).add j) = some v := by
        intro j v hv
        rw [add_plain, Nat.zero_add, H.cell (cs := cs) (T := e) (by simp)]
        rw [← htk, List.getElem?_take] at hv
        split at hv
        · exact hv
        · cases hv
      have hr := run_append_grow_string (P := P) w1 t u ty e i z ht hu hi hz ⟨g, 0, none⟩ xs.length cap (ints .u8 xs) (by rw [hsz]; simp) hcell0 b (by omega) (by omega) (growslice_fits (by omega) (by rw [hby]; omega))
      refine yieldsTo_val' (hrun _ hr) ⟨Or.inl (Own.newobj w1 _), ?_⟩
      refine fresh_buf hb0 hlen.symm hzs ?_ h63
      rw [ints_append, ← strCells_nums]
      simp
end
end Go.Proofs.Ytokichlmgepdpaa

/-! Slices of bytes, and slices of these, that were there before a call. No dump, no condition. -/
namespace Go.Proofs.Ytokichlmgepdpaa
open Go.RowKit Go.ChangeShapes

/-- what is known of a slice of bytes that was there -/
def Old (w : World) (v : Value) (bs : List Int) : Prop := BytesAt w v bs ∧ ∀ k, blk v = some k → k < w.heap.size

theorem Old.at {w w1 : World} {v : Value} {bs : List Int} {L : List Ent} (h : Old w v bs) (ho : Own w w1 L) (hn : ∀ k ∈ L.map (·.1), w.heap.size ≤ k) : BytesAt w1 v bs :=
  SlAt.own h.1 ho (fun j hj hm => by have := h.2 j hj; have := hn j hm; omega)
theorem Old.lt {w w1 : World} {v : Value} {bs : List Int} (h : Old w v bs) (hs : w.heap.size ≤ w1.heap.size) : ∀ k, blk v = some k → k < w1.heap.size := fun k hk => Nat.lt_of_lt_of_le (h.2 k hk) hs
theorem Old.ne {w : World} {v : Value} {bs : List Int} (h : Old w v bs) {d : Nat} (hd : w.heap.size ≤ d) : ∀ k, blk v = some k → k ≠ d := fun k hk => by have := h.2 k hk; omega
theorem Old.mv {w w1 : World} {v : Value} {bs : List Int} {L : List Ent} (h : Old w v bs) (ho : Own w w1 L) (hn : ∀ k ∈ L.map (·.1), w.heap.size ≤ k) : Old w1 v bs := ⟨h.at ho hn, h.lt ho.size⟩
theorem Old.shape {w : World} {v : Value} {bs : List Int} (h : Old w v bs) : ∃ p c, v = .slice p bs.length c := by
  rcases h.1.cell with ⟨⟨p, rfl⟩, rfl⟩ | ⟨b, off, cap, rfl, _, _⟩
  · exact ⟨p, 0, rfl⟩
  · exact ⟨_, _, rfl⟩

theorem Old.sub {w : World} {v : Value} {xs : List Int} (h : Old w v xs) {p : Option Addr} {c l m : Nat} (hb : SlAt w (.slice p m c) m (((u8s xs).drop l).take m) ∧ ∀ k, blk (Value.slice p m c) = some k → blk v = some k) (hl : ((xs.drop l).take m).length = m) : Old w (.slice p m c) ((xs.drop l).take m) := by
  refine ⟨?_, fun k hk => h.2 k (hb.2 k hk)⟩
  have h1 := hb.1
  unfold BytesAt
  rw [hl]
  have e : ((u8s xs).drop l).take m = u8s ((xs.drop l).take m) := by simp [ints, List.map_take, List.map_drop]
  rwa [e] at h1

theorem sub_old {P : Program} {o : Oper} {a : Act} {w : World} {t : TypeId} {x : Operand} {lo hi : Option Operand} (ho : o.op = .slice t x lo hi none) {e : TypeId} (hu : P.underlying t = some (.slice e)) (hsz : (P.info? e).map (·.size) = some 1) {p0 : Option Addr} {n c0 : Nat}
    (hx : a.eval x = .slice p0 n c0) {xs : List Int} (h : Old w (.slice p0 n c0) xs) (hn : n = xs.length) {l h' : Nat} (hl : BoundIs (lo.map a.eval) 0 l) (hh : BoundIs (hi.map a.eval) n h') (h1 : l ≤ h') (h2 : h' ≤ n) {zs : List Int} (hz : (xs.drop l).take (h' - l) = zs) :
    ∃ p c, (∀ w', (execOp a.eval o).run P w' = .ok (.value (.slice p zs.length c)) w') ∧ SlAt w (.slice p zs.length c) zs.length (ints .u8 zs) ∧ ∀ j, blk (Value.slice p zs.length c) = some j → j < w.heap.size := by
  have hl' : h' - l = zs.length := by rw [← hz, List.length_take, List.length_drop]; omega
  have hb : SlAt w (.slice p0 n c0) n (u8s xs) := by have := h.1; rw [BytesAt, ← hn] at this; exact this
  obtain ⟨p, c, h3, h4, h5⟩ := rn_sub (m := zs.length) ho hu hsz hx hb (by rw [length_ints]; exact hn.symm) hl hh h1 h2 hl'
  refine ⟨p, c, h3, ?_, fun j hj => h.2 j (h5 j hj)⟩
  have e : ((u8s xs).drop l).take zs.length = u8s zs := by rw [← hl', ← hz]; simp [ints, List.map_take, List.map_drop]
  rwa [e] at h4

/-- a slice of slices of bytes that was there -/
structure OldL (w : World) (v : Value) (ls : List (Value × List Int)) : Prop where
  sl : SlAt w v ls.length (ls.map (·.1))
  lt : ∀ k, blk v = some k → k < w.heap.size
  el : ∀ (i : Nat) (x : Value × List Int), ls[i]? = some x → Old w x.1 x.2 ∧ (∃ p c, x.1 = .slice p x.2.length c) ∧ ∀ j, j < x.2.length → 0 ≤ x.2[j]?.getD 0 ∧ x.2[j]?.getD 0 < 256

section
variable {P : Program} {w : World} {t e : TypeId} {v : Value} {base : Nat} {H : Type} {enc : TypeId × Value → H}

theorem trod_bytes {fuel : Nat} {cs : List Value} {x : DataW H × List MemPlace} (ht : P.underlying t = some (.slice e)) (he : P.underlying e = some (.int .u8)) (hs : P.cellsOf e = 1)
    (hf : DataW.trod enc P w 0 (fun _ => true) true fuel t cs = some x) :
    ∃ p l c bs, cs = [.slice p l c] ∧ Old w (.slice p l c) bs ∧ bs.length = l ∧ ∀ i, i < bs.length → 0 ≤ bs[i]?.getD 0 ∧ bs[i]?.getD 0 < 256 := by
  rcases open_ints ht he hs hf with ⟨rfl, _⟩ | ⟨⟨b, off, spot⟩, l, c, zs, rfl, _, hl, hm, hz, _, hcell, hwz⟩
  · exact ⟨none, 0, 0, [], rfl, ⟨Or.inl ⟨⟨_, rfl⟩, rfl, rfl⟩, (by intro k hk; cases hk)⟩, rfl, by simp⟩
  · have hz' : zs.length = c := by simpa using hz
    have hlen : (zs.take l).length = l := by rw [List.length_take]; omega
    have hrange : ∀ i, i < (zs.take l).length → 0 ≤ (zs.take l)[i]?.getD 0 ∧ (zs.take l)[i]?.getD 0 < 256 := by
      intro i hi
      have hi2 : i < l := by omega
      have hi3 : i < zs.length := by omega
      have hw := hwz zs[i] (List.getElem_mem hi3)
      simp [Lit.wf, IntKind.min, IntKind.max, IntKind.signed, IntKind.bits] at hw
      simp [hi2, hi3]
      omega
    by_cases hc0 : c = 0
    · subst hc0
      obtain rfl : l = 0 := by omega
      exact ⟨_, 0, 0, [], rfl, ⟨Or.inl ⟨⟨_, rfl⟩, rfl, rfl⟩, (by intro k hk; rw [blk_zero] at hk; cases hk)⟩, rfl, by simp⟩
    · have h0 := hcell 0 (by omega)
      have hadd : (⟨b, off, spot⟩ : Addr).add 0 = ⟨b, off, spot⟩ := rfl
      rw [hadd] at h0
      have hb := World.block_lt_of_cell? w _ h0
      obtain rfl : spot = none := by
        unfold World.cell? at h0
        cases spot with
        | none => rfl
        | some s => split at h0 <;> simp at h0
      refine ⟨_, l, c, zs.take l, rfl, ⟨?_, ?_⟩, hlen, hrange⟩
      · refine Or.inr ⟨b, off, c, by rw [hlen], ⟨by omega, fun h => by rw [List.eq_nil_of_length_eq_zero h]; rfl⟩, fun i v hv => ?_⟩
        have hi : i < (zs.take l).length := by
          rcases Nat.lt_or_ge i (zs.take l).length with h | h
          · exact h
          · rw [List.getElem?_eq_none (by simpa [ints] using h)] at hv; cases hv
        have h1 := hcell i (by omega)
        rw [add_plain] at h1
        rw [h1, ints_get hi] at *
        simp only [Option.some.injEq] at hv
        subst hv
        have : i < zs.length := by omega
        have hi2 : i < l := by omega
        simp [this, hi2]
      · intro k hk
        obtain rfl := (blk_some hk).1
        exact hb

theorem exists_list {α : Type} {n : Nat} {Q : Nat → α → Prop} (h : ∀ i, i < n → ∃ x, Q i x) : ∃ l : List α, l.length = n ∧ ∀ i x, l[i]? = some x → Q i x := by
  induction n with
  | zero => exact ⟨[], rfl, by simp⟩
  | succ n ih =>
    obtain ⟨l, hl, hq⟩ := ih (fun i hi => h i (by omega))
    obtain ⟨x, hx⟩ := h n (by omega)
    refine ⟨l ++ [x], by simp [hl], fun i y hy => ?_⟩
    rcases Nat.lt_trichotomy i n with hi | hi | hi
    · rw [List.getElem?_append_left (by omega)] at hy; exact hq i y hy
    · subst hi
      rw [List.getElem?_append_right (by omega), hl] at hy
      simp at hy; subst hy; exact hx
    · rw [List.getElem?_eq_none (by simp; omega)] at hy; cases hy

/-- a slice of slices of bytes that came in -/
theorem open_bytess {e2 : TypeId} {d : DataW H} {ps : List MemPlace} (ht : P.underlying t = some (.slice e2)) (he2 : P.underlying e2 = some (.slice e)) (he : P.underlying e = some (.int .u8)) (hs2 : P.cellsOf e2 = 1) (hs : P.cellsOf e = 1)
    (hv : Value.okWide P w .any base t v) (h : DataW.Trod enc P w 0 (fun _ => true) true t v d ps) : ∃ a l c ls, v = .slice a l c ∧ OldL w (.slice a l c) ls ∧ ls.length = l := by
  obtain ⟨a, l, c, rfl⟩ := Go.WideShapes.okWide_slice ht hv
  obtain ⟨fuel, hf⟩ := h
  rcases DataW.trod_slice ht hf with ⟨hcs, _⟩ | ⟨a', l', c', elems, rest, n, _, hcs, _, hb, hl, hm, hlen, hel, hsp, _⟩
  · simp [Value.cells] at hcs
    obtain ⟨rfl, rfl, rfl⟩ := hcs
    exact ⟨none, 0, 0, [], rfl, ⟨Or.inl ⟨⟨_, rfl⟩, rfl, rfl⟩, (by intro k hk; cases hk), by simp⟩, rfl⟩
  · simp [Value.cells] at hcs
    obtain ⟨rfl, rfl, rfl⟩ := hcs
    by_cases hc0 : c = 0
    · subst hc0
      obtain rfl : l = 0 := by omega
      exact ⟨_, 0, 0, [], rfl, ⟨Or.inl ⟨⟨_, rfl⟩, rfl, rfl⟩, (by intro k hk; rw [blk_zero] at hk; cases hk), by simp⟩, rfl⟩
    · have each : ∀ i y, (elems ++ rest)[i]? = some y → ∃ cs', w.cells? 0 (a'.add i) 1 = some cs' ∧ DataW.trod enc P w 0 (fun _ => true) true n e2 cs' = some y := by
        intro i y hy
        obtain ⟨hrl, hr⟩ := hsp rfl
        have hb' : (w.cells? 0 (a'.add (i * P.cellsOf e2)) (P.cellsOf e2)).bind (DataW.trod enc P w 0 (fun _ => true) true n e2) = some y := by
          by_cases hi : i < l
          · rw [hel i hi, ← hy, List.getElem?_append_left (by omega)]
          · have hi' : i - l < rest.length := by
              have := (List.getElem?_eq_some_iff.1 hy).1
              simp at this
              omega
            have := hr (i - l) (by omega)
            rw [show l + (i - l) = i by omega] at this
            rw [this, ← hy, List.getElem?_append_right (by omega), hlen]
        rw [hs2, Nat.mul_one, Option.bind_eq_some_iff] at hb'
        exact hb'
      have one : ∀ i, i < c → ∃ p l2 c2 bs, w.cell? (a'.add i) = some (.slice p l2 c2) ∧ Old w (.slice p l2 c2) bs ∧ bs.length = l2 ∧ ∀ j, j < bs.length → 0 ≤ bs[j]?.getD 0 ∧ bs[j]?.getD 0 < 256 := by
        intro i hi
        have hrl := (hsp rfl).1
        have hi' : i < (elems ++ rest).length := by simp; omega
        obtain ⟨cs', h1, h2⟩ := each i _ (List.getElem?_eq_getElem hi')
        obtain ⟨p, l2, c2, bs, rfl, h3, h4, h5⟩ := trod_bytes he2 he hs h2
        exact ⟨p, l2, c2, bs, cell_of_cells?_one h1, h3, h4, h5⟩
      obtain ⟨p0, l0, c0, bs0, h0, _⟩ := one 0 (by omega)
      obtain ⟨b, off, spot⟩ := a'
      have hadd : (⟨b, off, spot⟩ : Addr).add 0 = ⟨b, off, spot⟩ := rfl
      rw [hadd] at h0
      have hb2 := World.block_lt_of_cell? w _ h0
      obtain rfl : spot = none := by
        unfold World.cell? at h0
        cases spot with
        | none => rfl
        | some s => split at h0 <;> simp at h0
      obtain ⟨ls, hls, hq⟩ := exists_list (α := Value × List Int) (n := l) (Q := fun i x => w.cell? ⟨b, off + i, none⟩ = some x.1 ∧ Old w x.1 x.2 ∧ (∃ p c, x.1 = .slice p x.2.length c) ∧ ∀ j, j < x.2.length → 0 ≤ x.2[j]?.getD 0 ∧ x.2[j]?.getD 0 < 256) (fun i hi => by
        obtain ⟨p, l2, c2, bs, h1, h2, h3, h4⟩ := one i (by omega)
        rw [add_plain] at h1
        exact ⟨(_, bs), h1, h2, ⟨p, c2, by rw [h3]⟩, h4⟩)
      refine ⟨_, l, c, ls, rfl, ⟨?_, ?_, fun i x hx => (hq i x hx).2⟩, hls⟩
      · rw [hls]
        refine Or.inr ⟨b, off, c, rfl, ⟨hl, fun h => List.eq_nil_of_length_eq_zero (by rw [List.length_map, hls, h])⟩, fun i x hx => ?_⟩
        rw [List.getElem?_map] at hx
        cases hy : ls[i]? with
        | none => simp [hy] at hx
        | some y =>
          simp only [hy, Option.map_some, Option.some.injEq] at hx
          subst hx
          exact (hq i y hy).1
      · intro k hk
        obtain rfl := (blk_some hk).1
        exact hb2
end
end Go.Proofs.Ytokichlmgepdpaa

/-! What the walks are told of arguments that are numbers, or flat rows of bytes; a slice of bytes, opened. -/
namespace Go.Proofs.Ytokichlmgepdpaa
open Go.ChangeShapes Go.WideShapes Go.RowKit

section
variable {P : Program} {w : World} {t e : TypeId} {v : Value} {base : Nat}

theorem ok_int {k : IntKind} (ht : P.underlying t = some (.int k)) (h : Value.okWide P w .any base t v) : ∃ n, v = .int k n ∧ k.min ≤ n ∧ n ≤ k.max := by
  obtain ⟨n, rfl⟩ := okWide_int ht h
  simp only [Value.okWide, ht, Cell.okWide, Cell.ok, IntKind.has] at h
  exact ⟨n, rfl, h.2.1, h.2.2⟩

theorem ok_flat {n : Nat} (ht : (P.underlying t).map (fun d => match d with | .struct _ => true | .array _ _ => true | _ => false) = some true) (hc : P.cellTypes P.depth t = some (List.replicate n e)) (hn : P.cellsOf t = n) (he : P.underlying e = some (.int .u8))
    (h : Value.okWide P w .any base t v) : ∃ xs : List Int, v = .agg (u8s xs).toArray ∧ xs.length = n ∧ ∀ i, i < xs.length → 0 ≤ xs[i]?.getD 0 ∧ xs[i]?.getD 0 < 256 := by
  have h' : ∃ cs, v = .agg cs ∧ cs.size = P.cellsOf t ∧ Row.okWide P w .any 0 t cs := by
    unfold Value.okWide at h
    cases hu : P.underlying t with
    | none => simp [hu] at ht
    | some d =>
      rw [hu] at h ht
      cases d <;> simp at ht <;> exact h
  obtain ⟨cs, rfl, hsz, ts, hts, _, hcell⟩ := h'
  rw [hc] at hts
  obtain rfl : List.replicate n e = ts := by simpa using hts
  have hone : ∀ i (hi : i < cs.size), ∃ x : Int, cs[i] = .int .u8 x ∧ 0 ≤ x ∧ x < 256 := by
    intro i hi
    obtain ⟨u, hu, hok⟩ := hcell i cs[i] (by simp [hi])
    have hne : u = e := by
      rw [List.getElem?_replicate] at hu
      split at hu
      · exact (Option.some.inj hu).symm
      · cases hu
    subst hne
    simp only [Cell.okWide, he] at hok
    have hok' : ∃ x : Int, cs[i] = .int .u8 x ∧ IntKind.u8.has x := by
      generalize cs[i] = c at hok
      cases c <;> simp only [Cell.ok, he] at hok
      exact ⟨_, by rw [hok.1], hok.2⟩
    obtain ⟨x, hx, h0, h1⟩ := hok'
    have e0 : IntKind.u8.min = 0 := rfl
    have e1 : IntKind.u8.max = 255 := rfl
    exact ⟨x, hx, by omega, by omega⟩
  refine ⟨cs.toList.map fun c => match c with | .int _ x => x | _ => 0, ?_, by simp [hsz, hn], ?_⟩
  · congr 1
    apply Array.ext
    · simp
    · intro i h1 h2
      obtain ⟨x, hx, _⟩ := hone i h1
      simp [ints, hx]
  · intro i hi
    have hi' : i < cs.size := by simpa using hi
    obtain ⟨x, hx, h0, h1⟩ := hone i hi'
    simp [hi', hx, h0, h1]

/-- a slice of bytes that came in -/
theorem open_bytes {H : Type} {enc : TypeId × Value → H} {d : DataW H} {ps : List MemPlace} (ht : P.underlying t = some (.slice e)) (he : P.underlying e = some (.int .u8)) (hs : P.cellsOf e = 1) (hv : Value.okWide P w .any base t v)
    (h : DataW.Trod enc P w 0 (fun _ => true) true t v d ps) : ∃ a l c bs, v = .slice a l c ∧ BytesAt w (.slice a l c) bs ∧ (∀ k, blk (Value.slice a l c) = some k → k < w.heap.size) ∧ bs.length = l ∧ ∀ i, i < bs.length → 0 ≤ bs[i]?.getD 0 ∧ bs[i]?.getD 0 < 256 := by
  obtain ⟨a, l, c, rfl⟩ := okWide_slice ht hv
  obtain ⟨fuel, hf⟩ := h
  obtain ⟨p, l', c', bs, hcs, h1, h2, h3⟩ := trod_bytes ht he hs hf
  simp [Value.cells] at hcs
  obtain ⟨rfl, rfl, rfl⟩ := hcs
  exact ⟨_, _, _, bs, rfl, h1.1, h1.2, h2, h3⟩
end
end Go.Proofs.Ytokichlmgepdpaa

/-! A slice that a call grows by append, of whatever elements; blocks beside it that are stored into. No dump, no condition. -/
namespace Go.Proofs.Ytokichlmgepdpaa
open Go.RowKit

section
variable {P : Program} {ops : Array Oper} {rest : List Oper} {o : Oper} {a : Act} {w w0 : World} {Q : Exit → Act → World → Prop} {L L' : List Ent} {e : TypeId} {k : IntKind} {v xv : Value} {xs ys : List Int}

/-- a store of one cell into a block beside the buffer -/
theorem st_bufSet (hg : o.guard = none) {b : Nat} {cs : List Value} {T : TypeId} (E : Buf e k w0 w ((b, cs, T) :: L) v xs) {ty : TypeId} {x y : Operand} (ho : o.op = .store ty x y) {i : Nat} (hx : a.eval x = .pointer (some ⟨b, i, none⟩)) {u : Value} (hy : a.eval y = u)
    (hs : (P.info? ty).map (·.size) = some 1) (hi : i < cs.length) (h1 : u.oneCell' = true)
    (h : ∀ w', Buf e k w0 w' ((b, cs.set i u, T) :: L) v xs → wpList P ops Q rest (a.put o.dst undef) w') : wpList P ops Q (o :: rest) a w := by
  obtain ⟨Lv, hsl, H, hf⟩ := E
  refine st_skip hg (rn_store H ho hx hy hs (At.right At.head) hi h1) fun w' H' => h w' ⟨Lv, hsl, H', hf⟩

/-- a slice of the call's own -/
def BufV (e : TypeId) (sz : Nat) (w0 w : World) (L : List Ent) (v : Value) (n : Nat) (xs : List Value) : Prop :=
  ∃ Lv, SlOwn e sz v n xs Lv ∧ Own w0 w (Lv ++ L) ∧ ∀ j ∈ Lv.map (·.1), w0.heap.size ≤ j

variable {sz n : Nat} {cs : List Value}

theorem BufV.slice (h : BufV e sz w0 w L v n cs) : ∃ p c, v = .slice p n c := by
  obtain ⟨Lv, ⟨_, ⟨rfl, h2, _⟩ | ⟨g, cap, cs, rfl, _⟩⟩, _⟩ := h
  · exact ⟨none, 0, by rw [h2]⟩
  · exact ⟨_, _, rfl⟩
theorem BufV.nil (H : Own w0 w L) : BufV e sz w0 w L (.slice none 0 0) 0 [] := ⟨[], SlOwn.nil e sz, H, by simp⟩
theorem BufV.slAt (h : BufV e sz w0 w L v n cs) : SlAt w v n cs := by
  obtain ⟨Lv, h1, h2, _⟩ := h
  exact h1.slAt h2
theorem BufV.own0 (h : BufV e sz w0 w L v n cs) : Own w0 w L := by
  obtain ⟨Lv, _, h2, h3⟩ := h
  exact h2.drop h3
theorem BufV.lt (h : BufV e sz w0 w L v n cs) : ∀ j, blk v = some j → j < w.heap.size := by
  obtain ⟨Lv, ⟨_, ⟨rfl, _, _⟩ | ⟨g, cap, cs, rfl, rfl, _⟩⟩, h2, _⟩ := h
  · intro j hj; cases hj
  · intro j hj
    obtain rfl : g = j := (blk_some hj).1
    exact h2.lt (cs := cs) (T := e) (by simp)
theorem BufV.call0 {w' : World} (h : BufV e sz w0 w L v n cs) (hu : Own w w' []) : BufV e sz w0 w' L v n cs := by
  obtain ⟨Lv, h1, h2, h3⟩ := h
  exact ⟨Lv, h1, h2.call0 hu, h3⟩
theorem BufV.pop {b : Nat} {xs' : List Value} {T : TypeId} (h : BufV e sz w0 w ((b, xs', T) :: L) v n cs) (hb : w0.heap.size ≤ b) : BufV e sz w0 w L v n cs := by
  obtain ⟨Lv, h1, h2, h3⟩ := h
  exact ⟨Lv, h1, Own.drop (L1 := [(b, xs', T)]) (h2.perm List.perm_middle) (by simpa using hb), h3⟩
theorem BufV.litAt {b m : Nat} {xs' : List Value} {T : TypeId} (h : BufV e sz w0 w L v n cs) (hm : (b, xs', T) ∈ L) (hn : m = 0 → xs' = []) : SlAt w (.slice (some ⟨b, 0, none⟩) m m) m xs' := by
  obtain ⟨Lv, _, h2, _⟩ := h
  exact Or.inr ⟨b, 0, m, rfl, ⟨Nat.le_refl _, hn⟩, fun i x hx => by rw [h2.cell (List.mem_append_right _ hm), Nat.zero_add]; exact hx⟩

/-- append to it -/
theorem st_appV (hg : o.guard = none) (E : BufV e sz w0 w L v n cs) {by_ : Nat} (he : Elem P e sz by_) {s x : Operand} {t : TypeId} (ho : o.op = .call { callee := .builtin .append, args := #[s, x], argTypes := #[t, t] })
    (ht : P.underlying t = some (.slice e)) (hs : a.eval s = v) (hx : a.eval x = xv) {m : Nat} {ds : List Value} (hsrc : SlAt w xv m ds) (hl : ds.length = m * sz) (h1 : ∀ d ∈ ds, d.oneCell' = true) (hb : (n + m) * by_ ≤ 140737488355328) (h63 : n + m ≤ 140737488355328)
    (h : ∀ p c w', BufV e sz w0 w' L (.slice p (n + m) c) (n + m) (cs ++ ds) → wpList P ops Q rest (a.put o.dst (.slice p (n + m) c)) w') : wpList P ops Q (o :: rest) a w := by
  obtain ⟨Lv, hsl, h2, h3⟩ := E
  obtain ⟨v', w', Lv', hrun, f1, f2, f3⟩ := rn_append he h2 ho ht hs hx hsl hsrc hl h1 hb h63 h3
  have B : BufV e sz w0 w' L v' (n + m) (cs ++ ds) := ⟨Lv', f1, f2, f3⟩
  obtain ⟨p, c, rfl⟩ := B.slice
  exact wpList_plain hg fun K hK => by unfold Oper.wp; rw [hrun, Oper.upon_value]; exact hK _ _ (h p c w' B)

/-- a literal beside it -/
theorem st_litV (hg : o.guard = none) (E : BufV e sz w0 w L v n cs) {t el : TypeId} {len : Nat} {parts : Array (Nat × Operand)} (ho : o.op = .buildSlice t len parts) {ds : List Value}
    (hf : ∀ w', (Instr.buildSlice t len (parts.map fun (i, x) => (i, a.eval x))).run P w' = .ok (.slice (some ⟨w'.heap.size, 0, none⟩) len len) (w'.alloc (.cells ds.toArray el)))
    (h : ∀ n' w', w0.heap.size ≤ n' → BufV e sz w0 w' ((n', ds, el) :: L) v n cs → wpList P ops Q rest (a.put o.dst (.slice (some ⟨n', 0, none⟩) len len)) w') : wpList P ops Q (o :: rest) a w := by
  obtain ⟨Lv, hsl, H, hd⟩ := E
  have B : BufV e sz w0 (w.alloc (.cells ds.toArray el)) ((w.heap.size, ds, el) :: L) v n cs := ⟨Lv, hsl, (H.alloc ds el).perm List.perm_middle.symm, hd⟩
  have hrun : (execOp a.eval o).run P w = .ok (.value (.slice (some ⟨w.heap.size, 0, none⟩) len len)) (w.alloc (.cells ds.toArray el)) := by
    unfold execOp
    simp only [ho, Sem.run_bind, hf w, Result.andThen_ok]
    rfl
  exact wpList_plain hg fun K hK => by unfold Oper.wp; rw [hrun, Oper.upon_value]; exact hK _ _ (h _ _ H.size B)

end

/-- the bytes of a number, the greatest first -/
def numB (x : Int) (m : Nat) : List Int := (List.range m).map fun j => x / 2 ^ (8 * (m - 1 - j)) % 256

theorem length_numB (x : Int) (m : Nat) : (numB x m).length = m := by simp [numB]
theorem numB_step {x : Int} {m i : Nat} (h : i < m) : (numB x m).take (m - (i + 1)) ++ [x / 2 ^ (8 * i) % 256] = (numB x m).take (m - i) := by
  have hlt : m - (i + 1) < (numB x m).length := by rw [length_numB]; omega
  rw [show m - i = m - (i + 1) + 1 by omega, List.take_succ_eq_append_getElem hlt]
  congr 2
  simp only [numB, List.getElem_map, List.getElem_range]
  rw [show m - 1 - (m - (i + 1)) = i by omega]

end Go.Proofs.Ytokichlmgepdpaa

/-! A region that draws its order and stores once into a block of the call's own; behind it the operations whose order is forced (a swap). No dump, no condition. -/
namespace Go.Proofs.Ytokichlmgepdpaa
open Go.RowKit

def moveB (o : Oper) : Bool := match o.op, o.guard with | .move _, none => true | _, _ => false

def putB (ops : Array Oper) (m : Nat) : Bool :=
  (match ops[m]? with | some o => o.dst.isNone && o.guard.isNone | none => false) && (List.range m).all fun i => waitsB ops m i || ((List.range m).any fun k => waitsB ops m k && waitsB ops k i) || (match ops[i]? with | some o => moveB o | none => false)

def Sp.valB : Sp → Bool
  | .val _ => true
  | .rel _ => false

def Sp.get : Option Sp → Value
  | some (.val v) => v
  | _ => undef

theorem Code.move_any {P : Program} {o : Oper} (h : moveB o = true) {a : Act} {w w1 : World} {v : Value} (hy : YieldsTo P o a w (fun v' w'' => v' = v ∧ Own w w'' [])) : YieldsTo P o a w1 (fun v' w'' => v' = v ∧ w'' = w1) := by
  unfold moveB at h
  split at h
  · rename_i x ho hg
    unfold YieldsTo execOp at hy ⊢
    simp only [ho] at hy ⊢
    first
      | exact ⟨hy.1, rfl⟩
      | (simp only [Sem.run_bind, Sem.run_pure, Result.andThen_ok] at hy ⊢; exact ⟨hy.1, rfl⟩)
  · cases h

section
variable {P : Program}

theorem region_put {id : Nat} {l : List Oper} {Q : Exit → Act → World → Prop} {a : Act} {w : World} (m : Nat) (hm : P.follows .mixedOrders = true) (hB : (regB l.toArray (m + 1) && Region.noSelect l.toArray && apartB l.toArray m && putB l.toArray m) = true) (hN : dstsB l.toArray (m + 1) a.tmps.size = true)
    (sps : List Sp) (hl : sps.length = m) (hv : sps.all Sp.valB = true) (St : World → World → Prop)
    (h : wpSp P l.toArray w (fun _ a' => (∀ o, l[m]? = some o → ∀ w', Own w w' [] → YieldsTo P o a' w' (fun v w'' => v = undef ∧ St w' w'')) ∧
      ∀ w1 w2 w', Own w w1 [] → St w1 w2 → Own w2 w' [] → wpList P l.toArray Q (l.drop (m + 1)) a' w') sps l (fun _ _ => True) a) : (Code.region id l.toArray true).wp P Q a w := by
  simp only [Bool.and_eq_true] at hB
  obtain ⟨⟨⟨hB, hsel⟩, hap⟩, hput⟩ := hB
  have hN' := dstsB_spec hN
  have h' : wpSp P l.toArray w (fun _ a' => (∀ o, l[m]? = some o → ∀ w', Own w w' [] → YieldsTo P o a' w' (fun v w'' => v = undef ∧ St w' w'')) ∧
      ∀ w1 w2 w', Own w w1 [] → St w1 w2 → Own w2 w' [] → wpList P l.toArray Q (l.drop (m + 1)) a' w') sps (l.toArray.toList.drop 0) (fun _ _ => True) (frameAt l.toArray (fun _ => undef) a 0) := by simpa [frameAt] using h
  obtain ⟨vals, hvd⟩ : ∃ vals : Nat → Value, vals = fun j => Sp.get sps[j]? := ⟨_, rfl⟩
  have hvals : ∀ j v, sps[j]? = some (.val v) → vals j = v := fun j v hj => by rw [hvd]; simp only [hj, Sp.get]
  have hnone : vals m = undef := by
    rw [hvd]
    simp only [List.getElem?_eq_none (show sps.length ≤ m by omega), Sp.get]
  have hallv : ∀ j s, sps[j]? = some s → ∃ v, s = Sp.val v := fun j s hj => by
    have := List.all_eq_true.1 hv s (List.mem_of_getElem? hj)
    cases s with
    | val v => exact ⟨v, rfl⟩
    | rel A => cases this
  have hat : ∀ i, i ≤ m → _ := fun i hi =>
    wpSp_at (P := P) (ops := l.toArray) (w := w) (a := a) vals i sps 0 (fun _ _ => True) (fun j v hj => by rw [Nat.zero_add]; exact hvals j v hj) h' (by omega)
  have hF : ∀ (w' : World) (S : Nat → Prop) (i : Nat) (j : Nat) (A0 : World → Value → Prop) (d : Nat), j < i → sps[j]? = some (.rel A0) → l.toArray[0 + j]?.bind (·.dst) = some d → S d → A0 w' (vals (0 + j)) := fun _ _ _ j A0 _ _ hs _ _ => by
    obtain ⟨v, hv'⟩ := hallv j _ hs
    cases hv'
  simp only [putB, Bool.and_eq_true, List.all_eq_true, List.mem_range, Bool.or_eq_true] at hput
  obtain ⟨hput1, hput2⟩ := hput
  obtain ⟨om, hom, hdm, hgm⟩ : ∃ om, l.toArray[m]? = some om ∧ om.dst = none ∧ om.guard = none := by
    cases ho : l.toArray[m]? with
    | none => simp [ho] at hput1
    | some om => simp [ho] at hput1; exact ⟨om, rfl, hput1.1, hput1.2⟩
  refine region_rel (m + 1) hm hB hN' (fun listed w' => listed.size = l.toArray.size ∧ if listed.getD m false = true then ∃ w1 w2, Own w w1 [] ∧ St w1 w2 ∧ Own w2 w' [] else Own w w' []) (fun i _ v => v = vals i) (by
    refine ⟨Array.size_replicate .., ?_⟩
    rw [if_neg (by rw [getD_replicate_false']; exact Bool.false_ne_true)]
    exact (Own.refl w).drew) ?_ ?_
  · intro i o hi ho listed a' w' hcl hwt hli hJ hasn
    obtain ⟨hlsz, hJ⟩ := hJ
    have hlsz2 : (listed.setIfInBounds i true).size = l.toArray.size := by rw [Array.size_setIfInBounds]; exact hlsz
    have hsel' := Region.noSelect_spec hsel
    have heq : ∀ s ∈ o.looksAt l.toArray, a'.tmps.getD s undef = (frameAt l.toArray vals a i).tmps.getD s undef := fun s hs => asnAt_frame i (fun j o d hj => hN' j o d (by omega)) (hasn s hs)
    have hexec : execOp a'.eval o = execOp (frameAt l.toArray vals a i).eval o := execOp_congr o (fun cs b => hsel' i o cs b ho) (fun x hx => by
      cases x with
      | tmp t => exact heq t (List.mem_append_left _ (List.mem_filterMap.2 ⟨.tmp t, by simpa using hx, rfl⟩))
      | _ => rfl)
    rw [wanted_congr heq]
    by_cases him : i = m
    · subst him
      rw [hom] at ho
      cases ho
      rw [if_neg (by rw [hli]; exact Bool.false_ne_true)] at hJ
      rw [if_pos (by simp [Region.wanted, hgm])]
      obtain ⟨F', _, f2⟩ := hat i (Nat.le_refl _)
      have hd0 : sps.drop i = [] := List.drop_of_length_le (by omega)
      rw [hd0] at f2
      simp only [wpSp] at f2
      rw [Nat.zero_add] at f2
      have hom' : l[i]? = some om := by simpa using hom
      have hq := f2.1 om hom' w' hJ
      have hsz : i < listed.size := by
        rw [hlsz]; exact (Array.getElem?_eq_some_iff.1 hom).1
      unfold YieldsTo at hq ⊢
      rw [hexec]
      have hset : (listed.setIfInBounds i true).getD i false = true := by rw [getD_setT, if_pos ⟨rfl, hsz⟩]
      generalize (execOp (frameAt l.toArray vals a i).eval om).run P w' = r at *
      cases r with
      | halt x w'' => exact hq.elim
      | ok nx w'' =>
        cases nx <;> simp only at hq ⊢
        case value x => exact ⟨hq.1.trans hnone.symm, ⟨hlsz2, by rw [if_pos hset]; exact ⟨w', w'', hJ, hq.2, Own.refl _⟩⟩, fun _ _ _ _ _ h => h⟩
        case skip => exact ⟨hnone.symm, ⟨hlsz2, by rw [if_pos hset]; exact ⟨w', w'', hJ, hq.2, Own.refl _⟩⟩, fun _ _ _ _ _ h => h⟩
        case enter f args => exact hq.mono fun e w3 ⟨u, he, h1, h2⟩ => ⟨u, he, h1.trans hnone.symm, ⟨hlsz2, by rw [if_pos hset]; exact ⟨w', w3, hJ, h2, Own.refl _⟩⟩, fun _ _ _ _ _ h => h⟩
    · have hilt : i < m := by omega
      have his : i < sps.length := by omega
      have hio : i < l.toArray.toList.length := by have := (Array.getElem?_eq_some_iff.1 ho).1; simpa using this
      obtain ⟨F', f1, f2⟩ := hat i (by omega)
      have hFw : ∀ w', F' w' (fun s => s ∈ o.looksAt l.toArray) := fun w' => f1 w' _ trivial (hF w' _ i)
      rw [Nat.zero_add, List.drop_eq_getElem_cons his, List.drop_eq_getElem_cons hio] at f2
      have hoe : l.toArray.toList[i] = o := by
        have := (Array.getElem?_eq_some_iff.1 ho).2
        simpa using this
      rw [hoe] at f2
      obtain ⟨v, hs⟩ := hallv i _ (List.getElem?_eq_getElem his)
      have hvi : vals i = v := hvals i v (by rw [List.getElem?_eq_getElem his, hs])
      rw [hs] at f2
      obtain ⟨f2, _⟩ := f2
      have hset : (listed.setIfInBounds i true).getD m false = listed.getD m false := by rw [getD_setT, if_neg (fun h => him h.1)]
      rw [hset]
      by_cases hlm : listed.getD m false = true
      · rw [if_pos hlm] at hJ
        have hmv : moveB o = true := by
          rcases hput2 i hilt with (h | h) | h
          · exact absurd (hcl m i h hlm) (by rw [hli]; exact Bool.false_ne_true)
          · obtain ⟨k, _, hk⟩ := List.any_eq_true.1 h
            rw [Bool.and_eq_true] at hk
            exact absurd (hcl k i hk.2 (hcl m k hk.1 hlm)) (by rw [hli]; exact Bool.false_ne_true)
          · rw [ho] at h; exact h
        have hgo : o.guard = none := by
          unfold moveB at hmv
          split at hmv
          · assumption
          · cases hmv
        have hw1 : Region.wanted o (yielded l.toArray (frameAt l.toArray vals a i).tmps) = true := by simp [Region.wanted, hgo]
        rw [if_pos hw1]
        have hq := f2 w (Own.refl w) (hFw w)
        rw [if_pos hw1] at hq
        have hq' := Code.move_any (w1 := w') hmv hq
        obtain ⟨w1, w2, j1, j2, j3⟩ := hJ
        unfold YieldsTo at hq' ⊢
        rw [hexec]
        generalize (execOp (frameAt l.toArray vals a i).eval o).run P w' = r at *
        cases r with
        | halt x w'' => exact hq'.elim
        | ok nx w'' =>
          cases nx <;> simp only at hq' ⊢
          case value x => obtain ⟨q1, rfl⟩ := hq'; exact ⟨q1.trans hvi.symm, ⟨hlsz2, by rw [if_pos hlm]; exact ⟨w1, w2, j1, j2, j3⟩⟩, fun _ _ _ _ _ h => h⟩
          case skip => obtain ⟨q1, rfl⟩ := hq'; exact ⟨q1.trans hvi.symm, ⟨hlsz2, by rw [if_pos hlm]; exact ⟨w1, w2, j1, j2, j3⟩⟩, fun _ _ _ _ _ h => h⟩
          case enter f args => exact hq'.mono fun e w3 ⟨u, he, h1, h2⟩ => ⟨u, he, h1.trans hvi.symm, by rw [h2, if_pos hlm]; exact ⟨hlsz2, w1, w2, j1, j2, j3⟩, fun _ _ _ _ _ h => h⟩
      · rw [if_neg hlm] at hJ
        have hq := f2 w' hJ (hFw w')
        split at hq
        · rename_i hw
          rw [if_pos hw]
          unfold YieldsTo at hq ⊢
          rw [hexec]
          generalize (execOp (frameAt l.toArray vals a i).eval o).run P w' = r at *
          cases r with
          | halt x w'' => exact hq.elim
          | ok nx w'' =>
            cases nx <;> simp only at hq ⊢
            case value x => exact ⟨hq.1.trans hvi.symm, ⟨hlsz2, by rw [if_neg hlm]; exact hJ.trans hq.2⟩, fun _ _ _ _ _ h => h⟩
            case skip => exact ⟨hq.1.trans hvi.symm, ⟨hlsz2, by rw [if_neg hlm]; exact hJ.trans hq.2⟩, fun _ _ _ _ _ h => h⟩
            case enter f args => exact hq.mono fun e w3 ⟨u, he, h1, h2⟩ => ⟨u, he, h1.trans hvi.symm, ⟨hlsz2, by rw [if_neg hlm]; exact hJ.trans h2⟩, fun _ _ _ _ _ h => h⟩
        · rename_i hw
          rw [if_neg hw]
          exact ⟨hq.trans hvi.symm, hlsz2, by rw [if_neg hlm]; exact hJ⟩
  · intro listed a' w' hall hJ hs hd hasn
    obtain ⟨_, hJ⟩ := hJ
    rw [if_pos (hall m (by omega))] at hJ
    have hfm : frameAt l.toArray vals a (m + 1) = frameAt l.toArray vals a m := by
      simp only [frameAt, hom, Option.bind_some, hdm]
      rfl
    have : a' = frameAt l.toArray vals a m := by
      rw [← hfm]
      have h1 := frameAt_size (ops := l.toArray) (vals := vals) (a := a) (m + 1)
      have h2 := frameAt_defers (ops := l.toArray) (vals := vals) (a := a) (m + 1)
      have h3 : a'.tmps = (frameAt l.toArray vals a (m + 1)).tmps := by
        apply Array.ext
        · omega
        · intro j hj1 hj2
          have := asnAt_frame (s := j) (m + 1) hN' (hasn j)
          simpa [hj1, hj2] using this
      obtain ⟨t1, d1⟩ := a'
      generalize frameAt l.toArray vals a (m + 1) = fr at h2 h3
      obtain ⟨t3, d3⟩ := fr
      simp only at h2 h3 hd
      rw [h3, hd, h2]
    obtain ⟨F', _, f2⟩ := hat m (Nat.le_refl _)
    have hd0 : sps.drop m = [] := List.drop_of_length_le (by omega)
    rw [hd0] at f2
    simp only [wpSp] at f2
    rw [Nat.zero_add, ← this] at f2
    obtain ⟨w1, w2, j1, j2, j3⟩ := hJ
    simpa using f2.2 w1 w2 w' j1 j2 j3

end
section
variable {P : Program} {ops : Array Oper} {rest : List Oper} {o : Oper} {a : Act} {w w0 : World} {Q : Exit → Act → World → Prop} {L L' : List Ent} {e : TypeId} {v : Value} {sz n c g : Nat} {cs : List Value}

/-- a literal of one's own -/
theorem BufV.lit {b : Nat} (H : Own w0 w ((b, cs, e) :: L)) (hb : w0.heap.size ≤ b) (hl : cs.length = n * sz) (hm : n ≤ 140737488355328) : BufV e sz w0 w L (.slice (some ⟨b, 0, none⟩) n n) n cs := by
  refine ⟨[(b, cs, e)], ⟨hl, Or.inr ⟨b, n, cs, rfl, rfl, Nat.le_refl _, Nat.le_trans hm (by decide), hl, List.take_of_length_le (by omega)⟩⟩, H, by simpa using hb⟩

theorem BufV.addr {p : Option Addr} (E : BufV e sz w0 w L (.slice p n c) n cs) (hn : 0 < n) : ∃ g, p = some ⟨g, 0, none⟩ := by
  obtain ⟨Lv, ⟨_, ⟨hv, h2, _⟩ | ⟨g, cap, cs', hv, _⟩⟩, _⟩ := E
  · omega
  · cases hv; exact ⟨g, rfl⟩

/-- a store into a slice of one's own -/
theorem rn_storeV (E : BufV e 1 w0 w L (.slice (some ⟨g, 0, none⟩) n c) n cs) {ty : TypeId} {x y : Operand} (ho : o.op = .store ty x y) {i : Nat} (hx : a.eval x = .pointer (some ⟨g, i, none⟩)) {u : Value} (hy : a.eval y = u)
    (hs : (P.info? ty).map (·.size) = some 1) (hi : i < n) (h1 : u.oneCell' = true) :
    ∃ w', (execOp a.eval o).run P w = .ok .skip w' ∧ BufV e 1 w0 w' L (.slice (some ⟨g, 0, none⟩) n c) n (cs.set i u) := by
  obtain ⟨Lv, ⟨hlen, hcase⟩, H, hd⟩ := E
  rcases hcase with ⟨hv, _⟩ | ⟨g', cap, cs', hv, rfl, hn, hcap, hcl, htk⟩
  · cases hv
  · cases hv
    obtain ⟨w', hr, H'⟩ := rn_store (L' := (g, cs'.set i u, e) :: L) H ho hx hy hs .head (by omega) h1
    exact ⟨w', hr, [(g, cs'.set i u, e)], ⟨by rw [List.length_set]; exact hlen, Or.inr ⟨g, c, _, rfl, rfl, hn, hcap, by rw [List.length_set]; exact hcl, by rw [← htk, List.take_set]⟩⟩, H', hd⟩

theorem st_storeV (hg : o.guard = none) (E : BufV e 1 w0 w L (.slice (some ⟨g, 0, none⟩) n c) n cs) {ty : TypeId} {x y : Operand} (ho : o.op = .store ty x y) {i : Nat} (hx : a.eval x = .pointer (some ⟨g, i, none⟩)) {u : Value} (hy : a.eval y = u)
    (hs : (P.info? ty).map (·.size) = some 1) (hi : i < n) (h1 : u.oneCell' = true)
    (h : ∀ w', BufV e 1 w0 w' L (.slice (some ⟨g, 0, none⟩) n c) n (cs.set i u) → wpList P ops Q rest (a.put o.dst undef) w') : wpList P ops Q (o :: rest) a w := by
  obtain ⟨w', hrun, E'⟩ := rn_storeV E ho hx hy hs hi h1
  exact wpList_plain hg fun K hK => by unfold Oper.wp; rw [hrun, Oper.upon_skip]; exact hK _ _ (h w' E')

end

theorem OldL.sub1 {w : World} {v : Value} {ls : List (Value × List Int)} (h : OldL w v ls) {p : Option Addr} {c m : Nat} (hb : SlAt w (.slice p m c) m (((ls.map (·.1)).drop 1).take m) ∧ ∀ k, blk (Value.slice p m c) = some k → blk v = some k) (hm : m = ls.length - 1) : OldL w (.slice p m c) (ls.drop 1) := by
  have hl : (ls.drop 1).length = m := by rw [List.length_drop, hm]
  have e : ((ls.map (·.1)).drop 1).take m = (ls.drop 1).map (·.1) := by
    rw [List.map_drop, List.take_of_length_le (by rw [List.length_drop, List.length_map]; omega)]
  refine ⟨by rw [hl, ← e]; exact hb.1, fun k hk => h.lt k (hb.2 k hk), fun i x hx => ?_⟩
  rw [List.getElem?_drop] at hx
  exact h.el _ x hx

/-- two elements changed -/
def swp {α : Type} (ls : List α) (x y : Nat) (p q : α) : List α := (ls.set x q).set y p
theorem map_swp (ls : List (Value × List Int)) (x y : Nat) (p q : Value × List Int) : ((ls.map (·.1)).set x q.1).set y p.1 = (swp ls x y p q).map (·.1) := by
  simp [swp, List.map_set]
theorem length_swp {α : Type} (ls : List α) (x y : Nat) (p q : α) : (swp ls x y p q).length = ls.length := by simp [swp]
theorem swp_mem {α : Type} {ls : List α} {x y i : Nat} {p q r : α} (hp : p ∈ ls) (hq : q ∈ ls) (h : (swp ls x y p q)[i]? = some r) : r ∈ ls := by
  have h1 := List.mem_of_getElem? h
  unfold swp at h1
  rcases List.mem_or_eq_of_mem_set h1 with h2 | rfl
  · rcases List.mem_or_eq_of_mem_set h2 with h3 | rfl
    · exact h3
    · exact hq
  · exact hp
theorem OldL.swap {w0 w1 w : World} {v m : Value} {ls : List (Value × List Int)} (h : OldL w1 v ls) (ho : Own w1 w []) {x y n : Nat} {p q : Value × List Int} (hp : ls[x]? = some p) (hq : ls[y]? = some q)
    {e : TypeId} (B : BufV e 1 w0 w [] m n ((swp ls x y p q).map (·.1))) (hn : n = ls.length) : OldL w m (swp ls x y p q) := by
  refine ⟨by rw [length_swp, ← hn]; exact B.slAt, B.lt, fun i r hr => ?_⟩
  have hm := swp_mem (List.mem_of_getElem? hp) (List.mem_of_getElem? hq) hr
  obtain ⟨j, hj, rfl⟩ := List.getElem_of_mem hm
  have := h.el j _ (List.getElem?_eq_getElem hj)
  exact ⟨this.1.mv ho (by simp), this.2⟩

theorem yieldsTo_skip {P : Program} {o : Oper} {a : Act} {w w' : World} {R : Value → World → Prop} (hrun : (execOp a.eval o).run P w = .ok .skip w') (h : R undef w') : YieldsTo P o a w R := by
  unfold YieldsTo; rw [hrun]; exact h

theorem yields_storeV {P : Program} {o : Oper} {a : Act} {e : TypeId} {w0 w : World} {L : List Ent} {g n c : Nat} {cs : List Value} (E : BufV e 1 w0 w L (.slice (some ⟨g, 0, none⟩) n c) n cs) {ty : TypeId} {x y : Operand} (ho : o.op = .store ty x y) {i : Nat} (hx : a.eval x = .pointer (some ⟨g, i, none⟩)) {u : Value} (hy : a.eval y = u)
    (hs : (P.info? ty).map (·.size) = some 1) (hi : i < n) (h1 : u.oneCell' = true) : YieldsTo P o a w (fun v w2 => v = undef ∧ BufV e 1 w0 w2 L (.slice (some ⟨g, 0, none⟩) n c) n (cs.set i u)) := by
  obtain ⟨w', hr, E'⟩ := rn_storeV E ho hx hy hs hi h1
  exact yieldsTo_skip hr ⟨rfl, E'⟩

theorem BufV.cellAt {e : TypeId} {w0 w : World} {L : List Ent} {g n c : Nat} {cs : List Value} (E : BufV e 1 w0 w L (.slice (some ⟨g, 0, none⟩) n c) n cs) {i : Nat} {u : Value} (hu : cs[i]? = some u) : w.cell? ⟨g, 0 + (i : Int).toNat * 1, none⟩ = some u := by
  rcases E.slAt with ⟨⟨p, hv⟩, _, h0⟩ | ⟨b, off, cap, hv, _, hc⟩
  · rw [h0] at hu; cases hu
  · cases hv
    have := hc i u hu
    simpa using this

theorem OldL.oneCell {w : World} {v : Value} {ls : List (Value × List Int)} (h : OldL w v ls) : ∀ d ∈ ls.map (·.1), d.oneCell' = true := by
  intro d hd
  obtain ⟨x, hx, rfl⟩ := List.mem_map.1 hd
  obtain ⟨i, hi, rfl⟩ := List.getElem_of_mem hx
  obtain ⟨p, c, h1⟩ := (h.el i _ (List.getElem?_eq_getElem hi)).2.1
  rw [h1]; rfl

end Go.Proofs.Ytokichlmgepdpaa
