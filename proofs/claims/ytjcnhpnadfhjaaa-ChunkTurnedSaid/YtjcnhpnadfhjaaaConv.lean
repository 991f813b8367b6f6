/- []byte{..} turned to []byte: the row gets a mark; it reads as before. No dump, no condition. -/
import Derived.Test.YtjcnhpnadfhjaaaOps
import Derived.Laws.IdiomStrings
namespace Go.Proofs.Ytjcnhpnadfhjaaa
open Go.RowKit

section
variable {P : Program} {ops : Array Oper} {rest : List Oper} {o : Oper} {a : Act} {w w0 : World} {Q : Exit → Act → World → Prop} {L L' : List Ent}

/-- what is left of what a call owns when one of its own rows is marked -/
theorem Own.marked {b : Nat} {cs : List Value} {T : TypeId} (H : Own w0 w ((b, cs, T) :: L)) (hb : w0.heap.size ≤ b) (n m : Nat) : Own w0 (w.freeze ⟨b, n, none⟩ m) L ∧ ∀ i, (w.freeze ⟨b, n, none⟩ m).cell? ⟨b, i, none⟩ = cs[i]? := by
  have hh := H.here b cs T (.head _)
  have hlt := H.lt (.head _)
  unfold World.freeze
  split
  · exact ⟨Own.drop (L1 := [(b, cs, T)]) H (by simpa using hb), fun i => H.cell (.head _) i⟩
  · have hother : ∀ k f, k ≠ b → (w.heap.modify b f)[k]? = w.heap[k]? := by
      intro k f hk
      rw [Array.getElem?_modify, if_neg (fun e => hk e.symm)]
    have hnd := H.nodup
    simp only [List.map_cons, List.nodup_cons] at hnd
    refine ⟨⟨H.os, H.tape, H.output, by simpa using H.size, fun k hk hkL => ?_, hnd.2, fun b' cs' T' hm => ?_⟩, fun i => ?_⟩
    · show (w.heap.modify b _)[k]? = _
      rw [hother k _ (by omega)]
      exact H.keep k hk (by
        simp only [List.map_cons, List.mem_cons, not_or]
        exact ⟨by omega, hkL⟩)
    · show (w.heap.modify b _)[b']? = _
      rw [hother b' _ (fun e => hnd.1 (e ▸ List.mem_map.2 ⟨_, hm, rfl⟩))]
      exact H.here b' cs' T' (.tail _ hm)
    · unfold World.cell?
      show (match (w.heap.modify b _)[b]? with | some (.cells c _ _) => _ | _ => _) = _
      rw [Array.getElem?_modify, if_pos rfl, hh]
      simp

/-- []byte(b) of a row of one's own -/
theorem st_conv (hw : Region.wanted o (yielded ops a.tmps) = true) {b : Nat} {bs : List Int} {T t e : TypeId} {x : Operand} {n : Nat} (H : Own w0 w ((b, u8s bs, T) :: L)) (hb : w0.heap.size ≤ b) (ho : o.op = .convert t t x) (ht : P.underlying t = some (.slice e)) (he : P.underlying e = some (.int .u8))
    (hx : a.eval x = .slice (some ⟨b, 0, none⟩) n n) (hn : n = bs.length)
    (h : ∀ w', BytesAt w' (.slice (some ⟨b, 0, none⟩) n n) bs → b < w'.heap.size → Own w0 w' L → wpList P ops Q rest (a.put o.dst (.slice (some ⟨b, 0, none⟩) n n)) w') : wpList P ops Q (o :: rest) a w := by
  subst hn
  have hh := H.here b (u8s bs) T (.head _)
  have hlt := H.lt (.head _)
  have hsh : w.shape? b = some (T, (u8s bs).length) := by unfold World.shape?; rw [hh]; simp
  have hrun : (execOp a.eval o).run P w = .ok (.value (.slice (some ⟨b, 0, none⟩) bs.length bs.length)) (w.freeze ⟨b, (u8s bs).length, none⟩ 1) := by
    unfold execOp
    simp only [ho, hx]
    simp [convert, run_underlying ht, run_underlying he, markStringish, hsh, Sem.run_bind]
  obtain ⟨h1, h2⟩ := H.marked hb (u8s bs).length 1
  have hsz : (w.freeze ⟨b, (u8s bs).length, none⟩ 1).heap.size = w.heap.size := by unfold World.freeze; split <;> simp
  have hk := h _ (Or.inr ⟨b, 0, bs.length, rfl, ⟨Nat.le_refl _, fun h => by rw [List.eq_nil_of_length_eq_zero h]; rfl⟩, fun i x hx => by rw [Nat.zero_add, h2 i]; exact hx⟩) (by omega) h1
  exact BigFrame.wpList_want hw fun K hK => by unfold Oper.wp; rw [hrun, Oper.upon_value]; exact hK _ _ hk
end
end Go.Proofs.Ytjcnhpnadfhjaaa
