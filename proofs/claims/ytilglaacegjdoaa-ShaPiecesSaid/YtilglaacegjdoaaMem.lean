/- A layer over the kit's walk: a list of blocks that a piece of code owns, what each holds, and that nothing else has turned. No dump, no condition. -/
import Derived.WalkKit
import Derived.WalkSpells
import Derived.WalkLawsBesides
import Derived.BigQuiet
import Derived.Laws.CopyOwn
namespace Go.Proofs.Ytilglaacegjdoaa
open Go.RowKit

/-- A block: its number, what it holds, its elements' type. -/
abbrev Ent := Nat × List Value × TypeId

structure Own (w0 w : World) (L : List Ent) : Prop where
  os : w.os = w0.os
  tape : w.tape = w0.tape
  output : w.output = w0.output
  size : w0.heap.size ≤ w.heap.size
  keep : ∀ k, k < w0.heap.size → k ∉ L.map (·.1) → w.heap[k]? = w0.heap[k]?
  nodup : (L.map (·.1)).Nodup
  here : ∀ b cs T, (b, cs, T) ∈ L → w.heap[b]? = some (.cells cs.toArray T (0, 0))

theorem Own.refl (w : World) : Own w w [] := ⟨rfl, rfl, rfl, Nat.le_refl _, fun _ _ _ => rfl, List.nodup_nil, fun _ _ _ h => by cases h⟩

theorem Own.one {w : World} {b : Nat} {cs : List Value} {T : TypeId} (h : w.heap[b]? = some (.cells cs.toArray T (0, 0))) : Own w w [(b, cs, T)] :=
  ⟨rfl, rfl, rfl, Nat.le_refl _, fun _ _ _ => rfl, by simp, fun b' cs' T' h' => by
    simp at h'; obtain ⟨rfl, rfl, rfl⟩ := h'; exact h⟩

theorem Own.drew {w0 w : World} {L : List Ent} (h : Own w0 w L) : Own w0 w.drew L := ⟨h.os, h.tape, h.output, h.size, h.keep, h.nodup, h.here⟩
theorem Own.drewN {w0 w : World} {L : List Ent} (h : Own w0 w L) (n : Nat) : Own w0 (w.drewN n) L := ⟨h.os, h.tape, h.output, h.size, h.keep, h.nodup, h.here⟩

theorem Own.lt {w0 w : World} {L : List Ent} (h : Own w0 w L) {b : Nat} {cs : List Value} {T : TypeId} (hm : (b, cs, T) ∈ L) : b < w.heap.size :=
  (Array.getElem?_eq_some_iff.1 (h.here b cs T hm)).1

theorem Own.cell {w0 w : World} {L : List Ent} (h : Own w0 w L) {b : Nat} {cs : List Value} {T : TypeId} (hm : (b, cs, T) ∈ L) (i : Nat) : w.cell? ⟨b, i, none⟩ = cs[i]? := by
  rw [cell_of_row w b i _ _ _ (h.here b cs T hm)]; simp

theorem Own.alloc {w0 w : World} {L : List Ent} (h : Own w0 w L) (cs : List Value) (T : TypeId) : Own w0 (w.alloc (.cells cs.toArray T)) ((w.heap.size, cs, T) :: L) := by
  refine ⟨h.os, h.tape, h.output, by have := h.size; simp; omega, ?_, ?_, ?_⟩
  · intro k hk hn
    simp at hn
    rw [Below.heap_alloc w _ k (Nat.lt_of_lt_of_le hk h.size)]
    exact h.keep k hk (by simpa using hn.2)
  · simp only [List.map_cons, List.nodup_cons]
    refine ⟨fun hm => ?_, h.nodup⟩
    obtain ⟨⟨b, cs', T'⟩, hm, e⟩ := List.mem_map.1 hm
    have := h.lt hm
    simp at e; omega
  · intro b cs' T' hm
    rcases List.mem_cons.1 hm with e | hm
    · injection e with e1 e2; injection e2 with e2 e3; subst e1 e2 e3
      exact heap_alloc_new w _
    · rw [Below.heap_alloc w _ b (h.lt hm)]
      exact h.here b cs' T' hm

/-- One entry of the list holds something else now. -/
def At (L : List Ent) (b : Nat) (cs : List Value) (T : TypeId) (cs' : List Value) (L' : List Ent) : Prop :=
  ∃ L1 L2, L = L1 ++ (b, cs, T) :: L2 ∧ L' = L1 ++ (b, cs', T) :: L2

theorem At.head {L : List Ent} {b : Nat} {cs : List Value} {T : TypeId} {cs' : List Value} : At ((b, cs, T) :: L) b cs T cs' ((b, cs', T) :: L) := ⟨[], L, rfl, rfl⟩
theorem At.tail {L L' : List Ent} {e : Ent} {b : Nat} {cs : List Value} {T : TypeId} {cs' : List Value} (h : At L b cs T cs' L') : At (e :: L) b cs T cs' (e :: L') := by
  obtain ⟨L1, L2, rfl, rfl⟩ := h
  exact ⟨e :: L1, L2, rfl, rfl⟩
theorem At.left {L L' M : List Ent} {b : Nat} {cs : List Value} {T : TypeId} {cs' : List Value} (h : At L b cs T cs' L') : At (L ++ M) b cs T cs' (L' ++ M) := by
  obtain ⟨L1, L2, rfl, rfl⟩ := h
  exact ⟨L1, L2 ++ M, by simp, by simp⟩
theorem At.right {L L' M : List Ent} {b : Nat} {cs : List Value} {T : TypeId} {cs' : List Value} (h : At L b cs T cs' L') : At (M ++ L) b cs T cs' (M ++ L') := by
  obtain ⟨L1, L2, rfl, rfl⟩ := h
  exact ⟨M ++ L1, L2, by simp, by simp⟩
theorem At.mem {L L' : List Ent} {b : Nat} {cs : List Value} {T : TypeId} {cs' : List Value} (h : At L b cs T cs' L') : (b, cs, T) ∈ L := by
  obtain ⟨L1, L2, rfl, rfl⟩ := h; simp

theorem Own.set {w0 w : World} {L L' : List Ent} (h : Own w0 w L) {b : Nat} {cs cs' : List Value} {T : TypeId} (ha : At L b cs T cs' L') : Own w0 (w.setRow b cs'.toArray) L' := by
  have hb := h.here b cs T ha.mem
  obtain ⟨L1, L2, rfl, rfl⟩ := ha
  have hnd := h.nodup
  refine ⟨h.os, h.tape, h.output, by have := h.size; simpa using this, ?_, by simpa using hnd, ?_⟩
  · intro k hk hn
    have hkb : k ≠ b := by rintro rfl; simp at hn
    rw [setRow_other w b k _ hkb]
    exact h.keep k hk (by simpa using hn)
  · intro b' cs'' T' hm
    by_cases e : b' = b
    · subst e
      have : (b', cs'', T') = (b', cs', T) := by
        simp only [List.map_append, List.map_cons, List.nodup_append, List.nodup_cons] at hnd
        simp only [List.mem_append, List.mem_cons] at hm
        rcases hm with hm | hm | hm
        · exact absurd rfl (hnd.2.2 b' (List.mem_map.2 ⟨_, hm, rfl⟩) b' (by simp))
        · exact hm
        · exact absurd (List.mem_map.2 ⟨_, hm, rfl⟩) hnd.2.1.1
      injection this with _ e2; injection e2 with e2 e3; subst e2 e3
      exact setRow_heap w b' _ _ _ _ hb
    · rw [setRow_other w b b' _ e]
      refine h.here b' cs'' T' ?_
      simp only [List.mem_append, List.mem_cons] at hm ⊢
      rcases hm with hm | hm | hm
      · exact Or.inl hm
      · injection hm with e1 _; exact absurd e1 e
      · exact Or.inr (Or.inr hm)

/-- What is above the old memory is forgotten. -/
theorem Own.drop {w0 w : World} {L1 L2 : List Ent} (h : Own w0 w (L1 ++ L2)) (hn : ∀ k ∈ L1.map (·.1), w0.heap.size ≤ k) : Own w0 w L2 := by
  refine ⟨h.os, h.tape, h.output, h.size, ?_, ?_, fun b cs T hm => h.here b cs T (List.mem_append_right _ hm)⟩
  · intro k hk hk2
    refine h.keep k hk ?_
    simp only [List.map_append, List.mem_append, not_or]
    exact ⟨fun hm => by have := hn k hm; omega, hk2⟩
  · have := h.nodup
    simp only [List.map_append, List.nodup_append] at this
    exact this.2.1

theorem Own.perm {w0 w : World} {L L' : List Ent} (h : Own w0 w L) (p : L.Perm L') : Own w0 w L' :=
  ⟨h.os, h.tape, h.output, h.size, fun k hk hn => h.keep k hk (fun hm => hn ((p.map _).mem_iff.1 hm)), (p.map _).nodup_iff.1 h.nodup, fun b cs T hm => h.here b cs T (p.mem_iff.2 hm)⟩

theorem Own.dropR {w0 w : World} {L1 L2 : List Ent} (h : Own w0 w (L1 ++ L2)) (hn : ∀ k ∈ L2.map (·.1), w0.heap.size ≤ k) : Own w0 w L1 :=
  (h.perm List.perm_append_comm).drop hn

theorem Own.below {w0 w : World} {L : List Ent} (h : Own w0 w L) (hn : ∀ k ∈ L.map (·.1), w0.heap.size ≤ k) : Below w0.heap.size w0 w :=
  ⟨h.os, h.tape, h.output, h.size, fun k hk => h.keep k hk (fun hm => by have := hn k hm; omega)⟩

/-- A call has turned the blocks L1 into L1', and nothing else that was there. -/
def Upd (w w' : World) (L1 L1' : List Ent) : Prop := Own w w' L1' ∧ (∀ k ∈ L1'.map (·.1), k ∈ L1.map (·.1) ∨ w.heap.size ≤ k)

theorem Own.call {w0 w w' : World} {L1 L1' L : List Ent} (h : Own w0 w (L1 ++ L)) (hu : Upd w w' L1 L1') (hd : ∀ k ∈ L1.map (·.1), k ∈ L1'.map (·.1) ∨ w0.heap.size ≤ k) : Own w0 w' (L1' ++ L) := by
  obtain ⟨hu, hs⟩ := hu
  have hnd := h.nodup
  simp only [List.map_append, List.nodup_append] at hnd
  have hsame : ∀ k, k ∈ L.map (·.1) → w'.heap[k]? = w.heap[k]? := fun k hk => by
    obtain ⟨⟨b, cs, T⟩, hm, rfl⟩ := List.mem_map.1 hk
    have hlt := h.lt (List.mem_append_right _ hm)
    refine hu.keep b hlt (fun hk' => ?_)
    rcases hs b hk' with h1 | h1
    · exact hnd.2.2 b h1 b (List.mem_map.2 ⟨_, hm, rfl⟩) rfl
    · omega
  refine ⟨hu.os.trans h.os, hu.tape.trans h.tape, hu.output.trans h.output, Nat.le_trans h.size hu.size, ?_, ?_, ?_⟩
  · intro k hk hn
    simp only [List.map_append, List.mem_append, not_or] at hn
    rw [hu.keep k (Nat.lt_of_lt_of_le hk h.size) hn.1]
    refine h.keep k hk ?_
    simp only [List.map_append, List.mem_append, not_or]
    refine ⟨fun hm => ?_, hn.2⟩
    rcases hd k hm with h1 | h1
    · exact hn.1 h1
    · omega
  · simp only [List.map_append, List.nodup_append]
    refine ⟨hu.nodup, hnd.2.1, ?_⟩
    rintro a ha b hb rfl
    rcases hs a ha with h1 | h1
    · exact hnd.2.2 a h1 a hb rfl
    · obtain ⟨⟨b, cs, T⟩, hm, rfl⟩ := List.mem_map.1 hb
      have hlt := h.lt (List.mem_append_right _ hm)
      simp only at h1; omega
  · intro b cs T hm
    rcases List.mem_append.1 hm with hm | hm
    · exact hu.here b cs T hm
    · rw [hsame b (List.mem_map.2 ⟨_, hm, rfl⟩)]
      exact h.here b cs T (List.mem_append_right _ hm)

/-- A call that leaves all as it was (but for new memory). -/
theorem Own.call0 {w0 w w' : World} {L : List Ent} (h : Own w0 w L) (hu : Own w w' []) : Own w0 w' L :=
  Own.call (L1 := []) (L1' := []) h ⟨hu, by simp⟩ (by simp)

theorem Upd.of_own {w w' : World} {L' : List Ent} (h : Own w w' L') (hn : ∀ k ∈ L'.map (·.1), w.heap.size ≤ k) : Upd w w' [] L' := ⟨h, fun k hk => Or.inr (hn k hk)⟩

theorem Own.trans {w0 w w' : World} (h : Own w0 w []) (h' : Own w w' []) : Own w0 w' [] := h.call0 h'

/-! ### Old memory -/

theorem Own.old {w0 w : World} {L : List Ent} (h : Own w0 w L) {b i : Nat} {v : Value} (hc : w0.cell? ⟨b, i, none⟩ = some v) (hn : b ∉ L.map (·.1)) : w.cell? ⟨b, i, none⟩ = some v :=
  (World.cell?_of_block (w := w0) (h.keep b (World.block_lt_of_cell? w0 ⟨b, i, none⟩ hc) hn)).trans hc

/-! ### Slices that are read -/

/-- the block in which a slice lies, if it has room at all -/
def blk : Value → Option Nat
  | .slice (some a) _ c => if c = 0 then none else some a.block
  | _ => none

theorem blk_some {a : Addr} {n c k : Nat} (h : blk (.slice (some a) n c) = some k) : a.block = k ∧ c ≠ 0 := by
  simp only [blk] at h
  split at h
  · cases h
  · exact ⟨Option.some.inj h, ‹_›⟩
theorem blk_zero (p : Option Addr) : blk (.slice p 0 0) = none := by cases p <;> rfl

/-- A slice value reads as these cells (n elements; one of no room has whatever address). -/
def SlAt (w : World) (v : Value) (n : Nat) (xs : List Value) : Prop :=
  ((∃ p, v = .slice p 0 0) ∧ n = 0 ∧ xs = []) ∨ ∃ b off cap, v = .slice (some ⟨b, off, none⟩) n cap ∧ (n ≤ cap ∧ (n = 0 → xs = [])) ∧ ∀ i x, xs[i]? = some x → w.cell? ⟨b, off + i, none⟩ = some x

def ints (k : IntKind) (xs : List Int) : List Value := xs.map (Value.int k)
abbrev u8s (xs : List Int) : List Value := ints .u8 xs
abbrev u32s (xs : List Int) : List Value := ints .u32 xs
@[simp] theorem length_ints (k : IntKind) (xs : List Int) : (ints k xs).length = xs.length := by simp [ints]
theorem ints_set (k : IntKind) (xs : List Int) (i : Nat) (v : Int) : ints k (xs.set i v) = (ints k xs).set i (.int k v) := by simp [ints, List.map_set]
theorem ints_get {k : IntKind} {xs : List Int} {i : Nat} (h : i < xs.length) : (ints k xs)[i]? = some (.int k (xs[i]?.getD 0)) := by
  simp [ints, h]
theorem oneCell_ints (k : IntKind) (xs : List Int) : ∀ v ∈ ints k xs, v.oneCell' = true := by
  intro v hv; obtain ⟨x, _, rfl⟩ := List.mem_map.1 hv; rfl
theorem ints_append (k : IntKind) (xs ys : List Int) : ints k (xs ++ ys) = ints k xs ++ ints k ys := by simp [ints]

/-- A slice of bytes reads as these. -/
def BytesAt (w : World) (v : Value) (bs : List Int) : Prop := SlAt w v bs.length (u8s bs)

/-- A slice reads as before: each block that it can lie in is as it was. -/
theorem SlAt.keep {w w' : World} {v : Value} {n : Nat} {xs : List Value} (h : SlAt w v n xs) (hk : ∀ b off n cap, v = .slice (some ⟨b, off, none⟩) n cap → 0 < xs.length → b < w.heap.size → w'.heap[b]? = w.heap[b]?) : SlAt w' v n xs := by
  rcases h with h | ⟨b, off, cap, rfl, hl, hc⟩
  · exact Or.inl h
  · refine Or.inr ⟨b, off, cap, rfl, hl, fun i x hx => ?_⟩
    have h1 := hc i x hx
    have hb := World.block_lt_of_cell? w _ h1
    have hp : 0 < xs.length := by have := (List.getElem?_eq_some_iff.1 hx).1; omega
    exact (World.cell?_of_block (w := w) (hk b off n cap rfl hp hb)).trans h1

theorem SlAt.own {w w' : World} {v : Value} {n : Nat} {xs : List Value} {L : List Ent} (h : SlAt w v n xs) (ho : Own w w' L) (hn : ∀ k, blk v = some k → k ∉ L.map (·.1)) : SlAt w' v n xs := by
  rcases h with h | ⟨b, off, cap, rfl, hl, hc⟩
  · exact Or.inl h
  · refine Or.inr ⟨b, off, cap, rfl, hl, fun i x hx => ?_⟩
    have h1 := hc i x hx
    have hb := World.block_lt_of_cell? w _ h1
    by_cases h0 : cap = 0
    · subst h0
      rw [hl.2 (by omega)] at hx
      cases hx
    · exact (World.cell?_of_block (w := w) (ho.keep b hb (hn b (by simp [blk, h0])))).trans h1

theorem SlAt.own0 {w w' : World} {v : Value} {n : Nat} {xs : List Value} (h : SlAt w v n xs) (ho : Own w w' []) : SlAt w' v n xs := h.own ho (by simp)

theorem SlAt.drewN {w : World} {v : Value} {n : Nat} {xs : List Value} (h : SlAt w v n xs) (m : Nat) : SlAt (w.drewN m) v n xs := h


/-! ### One operation -/

section
variable {P : Program} {ops : Array Oper} {rest : List Oper} {o : Oper} {a : Act} {w w0 : World} {Q : Exit → Act → World → Prop} {L L' : List Ent}

/-- An operation that yields a value and leaves the world. -/
theorem st_val (hg : o.guard = none) {v : Value} (hrun : (execOp a.eval o).run P w = .ok (.value v) w)
    (h : wpList P ops Q rest (a.put o.dst v) w) : wpList P ops Q (o :: rest) a w :=
  wpList_plain hg fun K hK => by unfold Oper.wp; rw [hrun, Oper.upon_value]; exact hK _ _ h

/-- One that turns the world. -/
theorem st_skip (hg : o.guard = none) (hrun : ∃ w', (execOp a.eval o).run P w = .ok .skip w' ∧ Own w0 w' L')
    (h : ∀ w', Own w0 w' L' → wpList P ops Q rest (a.put o.dst undef) w') : wpList P ops Q (o :: rest) a w := by
  obtain ⟨w', hrun, ho⟩ := hrun
  exact wpList_plain hg fun K hK => by unfold Oper.wp; rw [hrun, Oper.upon_skip]; exact hK _ _ (h w' ho)

/-- One that yields a value and turns the world. -/
theorem st_both (hg : o.guard = none) {v : Value} (hrun : ∃ w', (execOp a.eval o).run P w = .ok (.value v) w' ∧ Own w0 w' L')
    (h : ∀ w', Own w0 w' L' → wpList P ops Q rest (a.put o.dst v) w') : wpList P ops Q (o :: rest) a w := by
  obtain ⟨w', hrun, ho⟩ := hrun
  exact wpList_plain hg fun K hK => by unfold Oper.wp; rw [hrun, Oper.upon_value]; exact hK _ _ (h w' ho)

/-- One that lays a new block and yields its address. -/
theorem st_new (hg : o.guard = none) {f : Nat → Value} {g : Nat → List Ent} (hrun : ∃ n w', (execOp a.eval o).run P w = .ok (.value (f n)) w' ∧ w0.heap.size ≤ n ∧ Own w0 w' (g n))
    (h : ∀ n w', w0.heap.size ≤ n → Own w0 w' (g n) → wpList P ops Q rest (a.put o.dst (f n)) w') : wpList P ops Q (o :: rest) a w := by
  obtain ⟨n, w', hrun, hn, ho⟩ := hrun
  exact wpList_plain hg fun K hK => by unfold Oper.wp; rw [hrun, Oper.upon_value]; exact hK _ _ (h n w' hn ho)

def plainDesc : TypeDesc → Bool | .struct _ | .array _ _ => false | _ => true

theorem run_isAgg {ty : TypeId} {d : TypeDesc} (hu : P.underlying ty = some d) (w : World) : (isAgg ty).run P w = .ok (!plainDesc d) w := by
  unfold isAgg
  rw [Sem.run_bind, run_underlying hu w]
  cases d <;> rfl

theorem run_loadVar_cell {ty : TypeId} {d : TypeDesc} (hu : P.underlying ty = some d) (hd : plainDesc d = true) {b i : Nat} {v : Value} (hc : w.cell? ⟨b, i, none⟩ = some v) :
    (loadVar ty ⟨b, i, none⟩).run P w = .ok v w := by
  simp [loadVar, Sem.run_bind, run_isAgg hu, hd, hc]

theorem run_sizeOf {ty : TypeId} {n : Nat} (hs : (P.info? ty).map (·.size) = some n) (w : World) : (sizeOf ty).run P w = .ok n w := by
  cases hq : P.info? ty with
  | none => simp [hq] at hs
  | some i => simp [sizeOf, typeInfo, hq, Sem.run_bind] at hs ⊢; exact hs

theorem add_plain (b o i : Nat) : (⟨b, o, none⟩ : Addr).add i = ⟨b, o + i, none⟩ := by unfold Addr.add; split <;> simp_all

theorem run_loadVar_cells {ty : TypeId} {d : TypeDesc} (hu : P.underlying ty = some d) (hd : plainDesc d = false) {b i : Nat} {vs : List Value} (hs : (P.info? ty).map (·.size) = some vs.length)
    (hc : ∀ j v, vs[j]? = some v → w.cell? ⟨b, i + j, none⟩ = some v) :
    (loadVar ty ⟨b, i, none⟩).run P w = .ok (.agg vs.toArray) w := by
  have hl := run_loadCells_list (P := P) w ⟨b, i, none⟩ vs (fun j v hv => by rw [add_plain]; exact hc j v hv)
  simp [loadVar, Sem.run_bind, run_isAgg hu, hd, run_sizeOf hs, hl]

/-- a load of one cell -/
theorem rn_cell {ty : TypeId} {x : Operand} (ho : o.op = .load ty x) {b i : Nat} (hx : a.eval x = .pointer (some ⟨b, i, none⟩)) {d : TypeDesc} (hu : P.underlying ty = some d) (hd : plainDesc d = true) {v : Value}
    (hc : w.cell? ⟨b, i, none⟩ = some v) : (execOp a.eval o).run P w = .ok (.value v) w := by
  unfold execOp
  simp only [ho, hx, Instr.loadAt, Instr.sureAddr, Sem.run_bind, Sem.run_pure, Result.andThen_ok, run_loadVar_cell hu hd hc]

theorem rn_load (H : Own w0 w L) {ty : TypeId} {x : Operand} (ho : o.op = .load ty x) {b i : Nat} (hx : a.eval x = .pointer (some ⟨b, i, none⟩)) {cs : List Value} {T : TypeId} (hm : (b, cs, T) ∈ L)
    {d : TypeDesc} (hu : P.underlying ty = some d) (hd : plainDesc d = true) {v : Value} (hv : cs[i]? = some v) : (execOp a.eval o).run P w = .ok (.value v) w :=
  rn_cell ho hx hu hd ((H.cell hm i).trans hv)

/-- a load of several -/
theorem rn_cells {ty : TypeId} {x : Operand} (ho : o.op = .load ty x) {b i : Nat} (hx : a.eval x = .pointer (some ⟨b, i, none⟩)) {d : TypeDesc} (hu : P.underlying ty = some d) (hd : plainDesc d = false) {vs : List Value}
    (hs : (P.info? ty).map (·.size) = some vs.length) (hc : ∀ j v, vs[j]? = some v → w.cell? ⟨b, i + j, none⟩ = some v) : (execOp a.eval o).run P w = .ok (.value (.agg vs.toArray)) w := by
  unfold execOp
  simp only [ho, hx, Instr.loadAt, Instr.sureAddr, Sem.run_bind, Sem.run_pure, Result.andThen_ok, run_loadVar_cells hu hd hs hc]

theorem rn_loadRow (H : Own w0 w L) {ty : TypeId} {x : Operand} (ho : o.op = .load ty x) {b i : Nat} (hx : a.eval x = .pointer (some ⟨b, i, none⟩)) {cs : List Value} {T : TypeId} (hm : (b, cs, T) ∈ L)
    {d : TypeDesc} (hu : P.underlying ty = some d) (hd : plainDesc d = false) {vs : List Value} (hs : (P.info? ty).map (·.size) = some vs.length) (hv : (cs.drop i).take vs.length = vs) : (execOp a.eval o).run P w = .ok (.value (.agg vs.toArray)) w :=
  rn_cells ho hx hu hd hs fun j v h => by
    rw [H.cell hm (i + j)]
    rw [← hv, List.getElem?_take] at h
    split at h
    · rw [List.getElem?_drop] at h; exact h
    · cases h

/-- the whole block -/
theorem rn_loadAll (H : Own w0 w L) {ty : TypeId} {x : Operand} (ho : o.op = .load ty x) {b : Nat} (hx : a.eval x = .pointer (some ⟨b, 0, none⟩)) {cs : List Value} {T : TypeId} (hm : (b, cs, T) ∈ L)
    {d : TypeDesc} (hu : P.underlying ty = some d) (hd : plainDesc d = false) (hs : (P.info? ty).map (·.size) = some cs.length) : (execOp a.eval o).run P w = .ok (.value (.agg cs.toArray)) w :=
  rn_loadRow H ho hx hm hu hd hs (by simp)

theorem Own.putCells (H : Own w0 w L) {b i : Nat} {cs vs : List Value} {T : TypeId} (hm : At L b cs T (splice cs i vs) L') (hl : i + vs.length ≤ cs.length) (h1 : ∀ v ∈ vs, v.oneCell' = true) :
    ∃ w', (storeCells ⟨b, i, none⟩ vs).run P w = .ok () w' ∧ Own w0 w' L' := by
  have hb := H.here b cs T hm.mem
  have h := run_storeCells_at P b i T vs 0 cs.toArray w hb (by simpa using hl) h1
  refine ⟨_, h, ?_⟩
  have := H.set hm
  simpa [splice] using this

/-- a store of one cell -/
theorem rn_store (H : Own w0 w L) {ty : TypeId} {x y : Operand} (ho : o.op = .store ty x y) {b i : Nat} (hx : a.eval x = .pointer (some ⟨b, i, none⟩)) {v : Value} (hy : a.eval y = v) (hs : (P.info? ty).map (·.size) = some 1)
    {cs : List Value} {T : TypeId} (hm : At L b cs T (cs.set i v) L') (hi : i < cs.length) (h1 : v.oneCell' = true) :
    ∃ w', (execOp a.eval o).run P w = .ok .skip w' ∧ Own w0 w' L' := by
  have hv : v.cells = #[v] := by cases v <;> first | rfl | (simp [Value.oneCell'] at h1)
  have hsp : splice cs i [v] = cs.set i v := by
    unfold splice
    rw [List.set_eq_take_append_cons_drop, if_pos hi]
    rfl
  obtain ⟨w', hr, ho'⟩ := H.putCells (P := P) (vs := [v]) (by rw [hsp]; exact hm) (by simp; omega) (by simpa using h1)
  refine ⟨w', ?_, ho'⟩
  unfold execOp
  simp only [ho, hx, hy, Instr.storeAt, Instr.sureAddr, storeVar, hv, Sem.run_bind, Sem.run_pure, Result.andThen_ok, run_sizeOf hs]
  simp [hr]

/-- a store of a number into a row of numbers (more may stand behind) -/
theorem rn_storeI (H : Own w0 w L) {ty : TypeId} {x y : Operand} (ho : o.op = .store ty x y) {b i : Nat} (hx : a.eval x = .pointer (some ⟨b, i, none⟩)) {k : IntKind} {z : Int} (hy : a.eval y = .int k z) (hs : (P.info? ty).map (·.size) = some 1)
    {xs : List Int} {T : TypeId} (hm : At L b (ints k xs) T (ints k (xs.set i z)) L') (hi : i < xs.length) :
    ∃ w', (execOp a.eval o).run P w = .ok .skip w' ∧ Own w0 w' L' :=
  rn_store H ho hx hy hs (cs := ints k xs) (by rw [← ints_set]; exact hm) (by simpa using hi) rfl
theorem rn_storeIA (H : Own w0 w L) {ty : TypeId} {x y : Operand} (ho : o.op = .store ty x y) {b i : Nat} (hx : a.eval x = .pointer (some ⟨b, i, none⟩)) {k : IntKind} {z : Int} (hy : a.eval y = .int k z) (hs : (P.info? ty).map (·.size) = some 1)
    {xs : List Int} {rest : List Value} {T : TypeId} (hm : At L b (ints k xs ++ rest) T (ints k (xs.set i z) ++ rest) L') (hi : i < xs.length) :
    ∃ w', (execOp a.eval o).run P w = .ok .skip w' ∧ Own w0 w' L' :=
  rn_store H ho hx hy hs (cs := ints k xs ++ rest) (by rw [List.set_append_left _ _ (by simpa using hi), ← ints_set]; exact hm) (by simp; omega) rfl

/-- a load of a number out of a row of numbers (more may stand behind) -/
theorem rn_loadI (H : Own w0 w L) {ty : TypeId} {x : Operand} (ho : o.op = .load ty x) {b i : Nat} (hx : a.eval x = .pointer (some ⟨b, i, none⟩)) {k : IntKind} {xs : List Int} {T : TypeId} (hm : (b, ints k xs, T) ∈ L)
    {d : TypeDesc} (hu : P.underlying ty = some d) (hd : plainDesc d = true) (hi : i < xs.length) : (execOp a.eval o).run P w = .ok (.value (.int k (xs[i]?.getD 0))) w :=
  rn_load H ho hx hm hu hd (ints_get hi)
theorem rn_loadIA (H : Own w0 w L) {ty : TypeId} {x : Operand} (ho : o.op = .load ty x) {b i : Nat} (hx : a.eval x = .pointer (some ⟨b, i, none⟩)) {k : IntKind} {xs : List Int} {rest : List Value} {T : TypeId} (hm : (b, ints k xs ++ rest, T) ∈ L)
    {d : TypeDesc} (hu : P.underlying ty = some d) (hd : plainDesc d = true) (hi : i < xs.length) : (execOp a.eval o).run P w = .ok (.value (.int k (xs[i]?.getD 0))) w :=
  rn_load H ho hx hm hu hd (by rw [List.getElem?_append_left (by simpa using hi)]; exact ints_get hi)

/-- a store of a row -/
theorem rn_storeRow (H : Own w0 w L) {ty : TypeId} {x y : Operand} (ho : o.op = .store ty x y) {b i : Nat} (hx : a.eval x = .pointer (some ⟨b, i, none⟩)) {vs : List Value} (hy : a.eval y = .agg vs.toArray)
    (hs : (P.info? ty).map (·.size) = some vs.length) {cs : List Value} {T : TypeId} (hm : At L b cs T (splice cs i vs) L') (hl : i + vs.length ≤ cs.length) (h1 : ∀ v ∈ vs, v.oneCell' = true) :
    ∃ w', (execOp a.eval o).run P w = .ok .skip w' ∧ Own w0 w' L' := by
  obtain ⟨w', hr, ho'⟩ := H.putCells (P := P) hm hl h1
  refine ⟨w', ?_, ho'⟩
  unfold execOp
  simp only [ho, hx, hy, Instr.storeAt, Instr.sureAddr, storeVar, Sem.run_bind, Sem.run_pure, Result.andThen_ok, run_sizeOf hs, Value.cells]
  simp [hr]

theorem rn_storeAll (H : Own w0 w L) {ty : TypeId} {x y : Operand} (ho : o.op = .store ty x y) {b : Nat} (hx : a.eval x = .pointer (some ⟨b, 0, none⟩)) {vs : List Value} (hy : a.eval y = .agg vs.toArray)
    (hs : (P.info? ty).map (·.size) = some vs.length) {cs : List Value} {T : TypeId} (hm : At L b cs T vs L') (hl : vs.length = cs.length) (h1 : ∀ v ∈ vs, v.oneCell' = true) :
    ∃ w', (execOp a.eval o).run P w = .ok .skip w' ∧ Own w0 w' L' := by
  refine rn_storeRow H ho hx hy hs (by rw [show splice cs 0 vs = vs by simp [splice, hl]]; exact hm) (by omega) h1

/-- a new variable -/
theorem rn_alloc (H : Own w0 w L) {ty : TypeId} (ho : o.op = .alloc ty) {cs : List Value} (hz : ((P.info? ty).bind (·.zero)).map (fun z => z.cells.toList) = some cs) :
    ∃ n w', (execOp a.eval o).run P w = .ok (.value (.pointer (some ⟨n, 0, none⟩))) w' ∧ w0.heap.size ≤ n ∧ Own w0 w' ((n, cs, ty) :: L) := by
  cases hq : P.info? ty with
  | none => simp [hq] at hz
  | some i =>
    cases hzz : i.zero with
    | none => simp [hq, hzz] at hz
    | some z =>
      simp [hq, hzz] at hz
      refine ⟨w.heap.size, w.alloc (.cells cs.toArray ty), ?_, H.size, H.alloc cs ty⟩
      subst hz
      simp [execOp, ho, Instr.alloc, zeroValue, typeInfo, hq, hzz, newVar, newRow, newObj, Sem.run_bind]
      rfl

theorem rn_box (H : Own w0 w L) {ty : TypeId} {x : Operand} (ho : o.op = .box ty x) {v : Value} (hx : a.eval x = v) {cs : List Value} (hz : v.cells.toList = cs) :
    ∃ n w', (execOp a.eval o).run P w = .ok (.value (.pointer (some ⟨n, 0, none⟩))) w' ∧ w0.heap.size ≤ n ∧ Own w0 w' ((n, cs, ty) :: L) := by
  refine ⟨w.heap.size, w.alloc (.cells cs.toArray ty), ?_, H.size, H.alloc cs ty⟩
  subst hz
  simp [execOp, ho, hx, Instr.box, newVar, newRow, newObj]
  rfl

theorem rn_build {t : TypeId} {parts : Array (Nat × Operand)} (ho : o.op = .build t parts) {cs : List Value} (hf : P.built t (parts.map fun (i, x) => (i, a.eval x)).toList = some cs.toArray) :
    (execOp a.eval o).run P w = .ok (.value (.agg cs.toArray)) w := by
  unfold execOp
  simp only [ho, Sem.run_bind, run_build w t _ _ hf, Result.andThen_ok]
  rfl

/-- the address of an array's element -/
theorem rn_idxArr {t : TypeId} {x ix : Operand} (ho : o.op = .indexAddr t x ix) {n e sz : Nat} (hu : P.underlying t = some (.array n e)) (hs : (P.info? e).map (·.size) = some sz) {b i : Nat} (hx : a.eval x = .pointer (some ⟨b, i, none⟩))
    {k : IntKind} {j : Int} (hj : a.eval ix = .int k j) (h0 : 0 ≤ j) (h1 : j < n) : (execOp a.eval o).run P w = .ok (.value (.pointer (some ⟨b, i + j.toNat * sz, none⟩))) w := by
  unfold execOp
  simp only [ho, hx, hj, Instr.indexAt, asIntOf, Instr.sureAddr, Sem.run_bind, Sem.run_pure, Result.andThen_ok, run_underlying hu]
  simp only [h0, h1, and_self, if_true, Sem.run_bind, run_sizeOf hs, Result.andThen_ok, Sem.run_pure, add_plain]

/-- the address of a slice's element -/
theorem rn_idxSl {t : TypeId} {x ix : Operand} (ho : o.op = .indexAddr t x ix) {e sz : Nat} (hu : P.underlying t = some (.slice e)) (hs : (P.info? e).map (·.size) = some sz) {b i n c : Nat} (hx : a.eval x = .slice (some ⟨b, i, none⟩) n c)
    {k : IntKind} {j : Int} (hj : a.eval ix = .int k j) (h0 : 0 ≤ j) (h1 : j < n) : (execOp a.eval o).run P w = .ok (.value (.pointer (some ⟨b, i + j.toNat * sz, none⟩))) w := by
  unfold execOp
  simp only [ho, hx, hj, Instr.indexAt, asIntOf, Instr.sureAddr, Sem.run_bind, Sem.run_pure, Result.andThen_ok, run_underlying hu]
  simp only [h0, h1, and_self, if_true, Sem.run_bind, run_sizeOf hs, Result.andThen_ok, Sem.run_pure, add_plain]

/-- x[lo:] -/
theorem rn_sliceLo {t : TypeId} {x lo : Operand} (ho : o.op = .slice t x (some lo) none none) {e sz : Nat} (hu : P.underlying t = some (.slice e)) (hs : (P.info? e).map (·.size) = some sz) {b i n c : Nat} (hx : a.eval x = .slice (some ⟨b, i, none⟩) n c)
    {k : IntKind} {j : Int} (hj : a.eval lo = .int k j) (h0 : 0 ≤ j) (h1 : j ≤ n) :
    (execOp a.eval o).run P w = .ok (.value (.slice (some ⟨b, if c = j.toNat then i else i + j.toNat * sz, none⟩) (n - j.toNat) (c - j.toNat))) w := by
  unfold execOp
  simp only [ho, hx, Option.map, hj, Instr.sliceAt, Sem.run_bind, Result.andThen_ok, run_underlying hu, Instr.slice, Instr.sliceBounds, Instr.sliceBound, asIntOf, Sem.run_pure]
  simp only [h0, h1, and_self, if_true, run_sizeOf hs, Result.andThen_ok, Sem.run_pure, add_plain, apply_ite (f := fun p => some (Addr.mk b p none))]

/-! ### The end of a call -/

theorem Own.end0 (H : Own w0 w L) (hn : ∀ k ∈ L.map (·.1), w0.heap.size ≤ k) : Own w0 w [] := Own.drop (L1 := L) (L2 := []) (by rw [List.append_nil]; exact H) hn

theorem fin_cell {fn : Func} {R : Ending → World → Prop} {p ty : Nat} (h : fn.results = #[.cell p ty]) (H : Own w0 w L) {b : Nat} (hp : a.tmps.getD p undef = .pointer (some ⟨b, 0, none⟩)) {cs : List Value} {T : TypeId} (hm : (b, cs, T) ∈ L)
    {d : TypeDesc} (hu : P.underlying ty = some d) (hd : plainDesc d = false) (hs : (P.info? ty).map (·.size) = some cs.length) (hdf : a.defers = []) (hR : R (.returned (.agg cs.toArray)) w) : bodyPost P fn R .ret a w := by
  refine bodyPost_ret (v := .agg cs.toArray) ?_ hdf hR
  have hp' : a.tmps[p]?.getD undef = .pointer (some ⟨b, 0, none⟩) := by simpa using hp
  have hl := run_loadVar_cells (P := P) (w := w) (b := b) (i := 0) (vs := cs) hu hd hs (fun j v hv => by rw [H.cell hm]; simpa using hv)
  simp [results, h, hp', asAddr, hl]

end

end Go.Proofs.Ytilglaacegjdoaa
