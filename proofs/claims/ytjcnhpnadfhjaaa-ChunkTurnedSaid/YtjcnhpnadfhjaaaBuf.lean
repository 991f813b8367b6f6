/- A slice of bytes that a call grows by append; indexing of arrays and strings. No dump, no condition. -/
import Derived.Test.YtjcnhpnadfhjaaaOps
namespace Go.Proofs.Ytjcnhpnadfhjaaa
open Go.RowKit

section
variable {P : Program} {ops : Array Oper} {rest : List Oper} {o : Oper} {a : Act} {w w0 : World} {Q : Exit → Act → World → Prop} {L L' : List Ent}

/-- a slice of the call's own, of cells of one kind of number; the other blocks that the call owns -/
def Buf (e : TypeId) (k : IntKind) (w0 w : World) (L : List Ent) (v : Value) (xs : List Int) : Prop :=
  ∃ Lv, SlOwn e 1 v xs.length (ints k xs) Lv ∧ Own w0 w (Lv ++ L) ∧ ∀ j ∈ Lv.map (·.1), w0.heap.size ≤ j

variable {e : TypeId} {k : IntKind} {v xv : Value} {xs ys : List Int}

theorem Buf.slice (h : Buf e k w0 w L v xs) : ∃ p c, v = .slice p xs.length c := by
  obtain ⟨Lv, ⟨_, ⟨rfl, h2, _⟩ | ⟨g, cap, cs, rfl, _⟩⟩, _⟩ := h
  · exact ⟨none, 0, by rw [h2]⟩
  · exact ⟨_, _, rfl⟩

theorem Buf.nil (H : Own w0 w L) : Buf e k w0 w L (.slice none 0 0) [] := ⟨[], SlOwn.nil e 1, H, by simp⟩

theorem Buf.slAt (h : Buf e k w0 w L v xs) : SlAt w v xs.length (ints k xs) := by
  obtain ⟨Lv, h1, h2, _⟩ := h
  exact h1.slAt h2

theorem Buf.bytesAt (h : Buf e .u8 w0 w L v xs) : BytesAt w v xs := h.slAt

theorem Buf.own (h : Buf e k w0 w L v xs) : ∃ Lv, Own w0 w (L ++ Lv) ∧ ∀ j ∈ Lv.map (·.1), w0.heap.size ≤ j := by
  obtain ⟨Lv, _, h2, h3⟩ := h
  exact ⟨Lv, h2.perm List.perm_append_comm, h3⟩

theorem Buf.own0 (h : Buf e k w0 w L v xs) : Own w0 w L := by
  obtain ⟨Lv, _, h2, h3⟩ := h
  exact h2.drop h3

theorem Buf.ne (h : Buf e k w0 w L v xs) {j : Nat} (hj : blk v = some j) : j ∉ L.map (·.1) := by
  obtain ⟨Lv, ⟨_, ⟨rfl, _, _⟩ | ⟨g, cap, cs, rfl, rfl, _⟩⟩, h2, _⟩ := h
  · cases hj
  · obtain rfl : g = j := (blk_some hj).1
    have := h2.nodup
    simp at this
    intro hm
    obtain ⟨x, hx, hxe⟩ := List.mem_map.1 hm
    obtain ⟨x1, x2, x3⟩ := x
    simp only at hxe
    subst hxe
    exact this.1 _ _ hx

theorem Buf.drewN (h : Buf e k w0 w L v xs) (m : Nat) : Buf e k w0 (w.drewN m) L v xs := by
  obtain ⟨Lv, h1, h2, h3⟩ := h
  exact ⟨Lv, h1, h2.drewN m, h3⟩

/-- a block more -/
theorem Buf.push {b : Nat} {cs : List Value} {T : TypeId} (h : Buf e k w0 w L v xs) {w' : World} (hstep : ∀ L1, Own w0 w L1 → Own w0 w' ((b, cs, T) :: L1)) : Buf e k w0 w' ((b, cs, T) :: L) v xs := by
  obtain ⟨Lv, h1, h2, h3⟩ := h
  exact ⟨Lv, h1, (hstep _ h2).perm (List.perm_middle.symm), h3⟩

/-- a block less -/
theorem Buf.pop {b : Nat} {cs : List Value} {T : TypeId} (h : Buf e k w0 w ((b, cs, T) :: L) v xs) (hb : w0.heap.size ≤ b) : Buf e k w0 w L v xs := by
  obtain ⟨Lv, h1, h2, h3⟩ := h
  exact ⟨Lv, h1, Own.drop (L1 := [(b, cs, T)]) (h2.perm List.perm_middle) (by simpa using hb), h3⟩

/-- a call that turns one of the other blocks -/
theorem Buf.call1 {b : Nat} {cs cs' : List Value} {T T' : TypeId} {w' : World} (h : Buf e k w0 w ((b, cs, T) :: L) v xs) (hu : Own w w' [(b, cs', T')]) : Buf e k w0 w' ((b, cs', T') :: L) v xs := by
  obtain ⟨Lv, h1, h2, h3⟩ := h
  exact ⟨Lv, h1, ((h2.perm List.perm_middle).call1 hu).perm List.perm_middle.symm, h3⟩

theorem Buf.call0 {w' : World} (h : Buf e k w0 w L v xs) (hu : Own w w' []) : Buf e k w0 w' L v xs := by
  obtain ⟨Lv, h1, h2, h3⟩ := h
  exact ⟨Lv, h1, h2.call0 hu, h3⟩

theorem Buf.sub1 {b : Nat} {cs : List Value} {T : TypeId} (h : Buf e k w0 w L v xs) (hm : (b, cs, T) ∈ L) : Own w w [(b, cs, T)] := by
  obtain ⟨Lv, _, h2, _⟩ := h
  exact h2.sub1 (List.mem_append_right _ hm)

/-- a slice literal of one's own -/
theorem Buf.lit {b : Nat} (H : Own w0 w ((b, ints k xs, e) :: L)) (hb : w0.heap.size ≤ b) (hm : xs.length ≤ 140737488355328) : Buf e k w0 w L (.slice (some ⟨b, 0, none⟩) xs.length xs.length) xs := by
  refine ⟨[(b, ints k xs, e)], ⟨by simp [ints], Or.inr ⟨b, xs.length, _, rfl, rfl, Nat.le_refl _, ?_, by simp [ints], List.take_of_length_le (by simp [ints])⟩⟩, H, by simpa using hb⟩
  exact Nat.le_trans hm (by decide)

/-- append to it -/
theorem st_app (hg : o.guard = none) (E : Buf e k w0 w L v xs) {by_ : Nat} (he : Elem P e 1 by_) {s x : Operand} {t : TypeId} (ho : o.op = .call { callee := .builtin .append, args := #[s, x], argTypes := #[t, t] })
    (ht : P.underlying t = some (.slice e)) (hs : a.eval s = v) (hx : a.eval x = xv) (hsrc : SlAt w xv ys.length (ints k ys)) (hb : (xs.length + ys.length) * by_ ≤ 140737488355328) (h63 : xs.length + ys.length ≤ 140737488355328)
    (h : ∀ p c w', Buf e k w0 w' L (.slice p (xs.length + ys.length) c) (xs ++ ys) → wpList P ops Q rest (a.put o.dst (.slice p (xs.length + ys.length) c)) w') : wpList P ops Q (o :: rest) a w := by
  obtain ⟨Lv, h1, h2, h3⟩ := E
  obtain ⟨v', w', Lv', hrun, f1, f2, f3⟩ := rn_append he h2 ho ht hs hx h1 hsrc (by simp [ints]) (oneCell_ints _ _) hb h63 h3
  have B : Buf e k w0 w' L v' (xs ++ ys) := ⟨Lv', by rw [List.length_append, ints_append]; exact f1, f2, f3⟩
  obtain ⟨p, c, rfl⟩ := B.slice
  rw [List.length_append] at hrun B
  exact wpList_plain hg fun K hK => by unfold Oper.wp; rw [hrun, Oper.upon_value]; exact hK _ _ (h p c w' B)

/-- a literal beside it -/
theorem st_lit (hg : o.guard = none) (E : Buf e k w0 w L v xs) {t el : TypeId} {len : Nat} {parts : Array (Nat × Operand)} (ho : o.op = .buildSlice t len parts) {cs : List Value}
    (hf : ∀ w', (Instr.buildSlice t len (parts.map fun (i, x) => (i, a.eval x))).run P w' = .ok (.slice (some ⟨w'.heap.size, 0, none⟩) len len) (w'.alloc (.cells cs.toArray el)))
    (h : ∀ n w', w0.heap.size ≤ n → Buf e k w0 w' ((n, cs, el) :: L) v xs → wpList P ops Q rest (a.put o.dst (.slice (some ⟨n, 0, none⟩) len len)) w') : wpList P ops Q (o :: rest) a w := by
  have hsz := E.own0.size
  have B : Buf e k w0 (w.alloc (.cells cs.toArray el)) ((w.heap.size, cs, el) :: L) v xs := E.push fun L1 h1 => h1.alloc cs el
  have hrun : (execOp a.eval o).run P w = .ok (.value (.slice (some ⟨w.heap.size, 0, none⟩) len len)) (w.alloc (.cells cs.toArray el)) := by
    unfold execOp
    simp only [ho, Sem.run_bind, hf w, Result.andThen_ok]
    rfl
  exact wpList_plain hg fun K hK => by unfold Oper.wp; rw [hrun, Oper.upon_value]; exact hK _ _ (h _ _ hsz B)

theorem Buf.litAt {b : Nat} {cs : List Value} {T : TypeId} {n : Nat} (h : Buf e k w0 w L v xs) (hm : (b, cs, T) ∈ L) (hn : n = cs.length) : SlAt w (.slice (some ⟨b, 0, none⟩) n n) n cs := by
  obtain ⟨Lv, _, h2, _⟩ := h
  subst hn
  exact Or.inr ⟨b, 0, cs.length, rfl, ⟨Nat.le_refl _, List.eq_nil_of_length_eq_zero⟩, fun i x hx => by rw [h2.cell (List.mem_append_right _ hm), Nat.zero_add]; exact hx⟩

/-- an element of an array that is a value -/
theorem rn_idxAgg {t : TypeId} {x ix : Operand} (ho : o.op = .index t x ix) {n : Nat} (hu : P.underlying t = some (.array n e)) (hs : (P.info? e).map (·.size) = some 1) {d : TypeDesc} (hd : P.underlying e = some d) (hp : plainDesc d = true)
    {cs : List Int} (hx : a.eval x = .agg (ints k cs).toArray) {ki : IntKind} {i : Int} (hj : a.eval ix = .int ki i) (h0 : 0 ≤ i) (h1 : i < cs.length) (h2 : cs.length = n) : (execOp a.eval o).run P w = .ok (.value (.int k (cs[i.toNat]?.getD 0))) w := by
  obtain ⟨j, rfl⟩ : ∃ j : Nat, i = j := ⟨i.toNat, by omega⟩
  have hj1 : j < cs.length := by omega
  unfold execOp
  subst h2
  have hb : (0 : Int) ≤ (j : Int) ∧ (j : Int) < (cs.length : Int) := ⟨h0, h1⟩
  have hg : (ints k cs).toArray[j * 1]? = some (.int k (cs[j]?.getD 0)) := by rw [Nat.mul_one]; simpa using ints_get (k := k) hj1
  simp only [ho, hx, hj, Instr.index, asIntOf, Sem.run_bind, Sem.run_pure, Result.andThen_ok, run_underlying hu, Int.toNat_natCast]
  rw [if_pos hb]
  simp only [Sem.run_bind, run_sizeOf hs, Result.andThen_ok, part, run_isAgg hd, hp, Bool.not_true, Bool.false_eq_true, if_false, hg, Sem.run_pure]

/-- a byte of a string -/
theorem rn_idxStr {t : TypeId} {x ix : Operand} (ho : o.op = .index t x ix) (hu : P.underlying t = some .string) {s : ByteArray} (hx : a.eval x = .string s) {ki : IntKind} {i z : Int} (hj : a.eval ix = .int ki i) (h0 : 0 ≤ i)
    (hz : (s[i.toNat]?).map (fun b => (b.toNat : Int)) = some z) : (execOp a.eval o).run P w = .ok (.value (.int .u8 z)) w := by
  unfold execOp
  cases hb : s[i.toNat]? with
  | none => simp [hb] at hz
  | some b =>
    simp only [hb, Option.map_some, Option.some.injEq] at hz
    subst hz
    simp only [ho, hx, hj, Instr.index, asIntOf, Sem.run_bind, Sem.run_pure, Result.andThen_ok, run_underlying hu, if_pos h0, hb]

end
end Go.Proofs.Ytjcnhpnadfhjaaa
