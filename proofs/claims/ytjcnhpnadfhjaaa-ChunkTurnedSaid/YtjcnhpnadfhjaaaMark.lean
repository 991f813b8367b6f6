/- []byte{..} turned to []byte within a region that draws its order. No dump, no condition. -/
import Derived.Test.YtjcnhpnadfhjaaaGrowA
import Derived.Test.YtjcnhpnadfhjaaaShaF
namespace Go.Proofs.Ytjcnhpnadfhjaaa
open Go.RowKit

/-- a literal of bytes that is not older than B -/
def NewR (B : Nat) (T : TypeId) (xs : List Int) : World → Value → Prop := fun w v => ∃ b, v = .slice (some ⟨b, 0, none⟩) xs.length xs.length ∧ B ≤ b ∧ w.shape? b = some (T, xs.length) ∧ ∀ i x, (u8s xs)[i]? = some x → w.cell? ⟨b, i, none⟩ = some x

section
variable {P : Program} {o : Oper} {a : Act} {w w1 : World} {B : Nat} {T e : TypeId} {xs : List Int} {v : Value}

theorem shape_lt {w : World} {b : Nat} {p : TypeId × Nat} (h : w.shape? b = some p) : b < w.heap.size := by
  unfold World.shape? at h
  rcases Nat.lt_or_ge b w.heap.size with h1 | h1
  · exact h1
  · rw [Array.getElem?_eq_none h1] at h; cases h

theorem NewR.mono : Mono (NewR B T xs) := fun w1 w2 v h ⟨b, h1, h2, h3, h4⟩ => by
  have hk := h.keep b (shape_lt h3) (by simp)
  refine ⟨b, h1, h2, ?_, fun i x hx => (World.cell?_of_block (w := w1) hk).trans (h4 i x hx)⟩
  unfold World.shape?
  rw [hk]
  exact h3

theorem NewR.presM : ∀ w1 w2 v, Mk B w1 w2 → NewR B T xs w1 v → NewR B T xs w2 v := fun w1 w2 v h ⟨b, h1, h2, h3, h4⟩ => by
  obtain ⟨_, _, _, _, g, _, hk, hs, hc⟩ := h
  by_cases hbg : b = g
  · subst hbg
    exact ⟨b, h1, h2, by rw [hs]; exact h3, fun i x hx => hc _ _ (h4 i x hx)⟩
  · have hk := hk b (shape_lt h3) hbg
    refine ⟨b, h1, h2, ?_, fun i x hx => (World.cell?_of_block (w := w1) hk).trans (h4 i x hx)⟩
    unfold World.shape?
    rw [hk]
    exact h3

theorem NewR.bin (h : NewR B T xs w v) : BIn xs w v := by
  obtain ⟨b, rfl, _, h3, h4⟩ := h
  refine ⟨⟨_, _, rfl⟩, Or.inr ⟨b, 0, xs.length, rfl, ⟨Nat.le_refl _, fun h => by rw [List.eq_nil_of_length_eq_zero h]; rfl⟩, fun i x hx => by rw [Nat.zero_add]; exact h4 i x hx⟩, fun k hk => ?_⟩
  obtain rfl := (blk_some hk).1
  exact shape_lt h3

theorem BIn.presM : ∀ w1 w2 v, Mk B w1 w2 → BIn xs w1 v → BIn xs w2 v := fun _ _ _ h ⟨h1, h2, h3⟩ => ⟨h1, h.sl h2, fun k hk => Nat.lt_of_lt_of_le (h3 k hk) h.2.2.2.1⟩

/-- a slice literal of bytes -/
theorem lit_new (hw : Own w w1 []) {t : TypeId} {len : Nat} {parts : Array (Nat × Operand)} (ho : o.op = .buildSlice t len parts) (hl : len = xs.length)
    (hf : ∀ w', (Instr.buildSlice t len (parts.map fun (i, x) => (i, a.eval x))).run P w' = .ok (.slice (some ⟨w'.heap.size, 0, none⟩) len len) (w'.alloc (.cells (u8s xs).toArray e))) :
    YieldsTo P o a w1 (fun v' w2 => Own w1 w2 [] ∧ NewR w.heap.size e xs w2 v') := by
  subst hl
  obtain ⟨n, w2, hr, hn, ho1⟩ := rn_buildSlice (o := o) (a := a) (Own.refl w1) ho hf
  refine yieldsTo_val' hr ⟨ho1.end0 (by simpa using hn), n, rfl, Nat.le_trans hw.size hn, ?_, fun i x hx => by rw [ho1.cell (.head _)]; exact hx⟩
  unfold World.shape?
  rw [ho1.here n (u8s xs) e (.head _)]
  simp

theorem conv_mark (h : NewR B T xs w1 v) {t : TypeId} {x : Operand} (ho : o.op = .convert t t x) (ht : P.underlying t = some (.slice e)) (he : P.underlying e = some (.int .u8)) (hx : a.eval x = v) :
    YieldsTo P o a w1 (fun v' w2 => Mk B w1 w2 ∧ NewR B T xs w2 v') := by
  obtain ⟨b, rfl, hB, hsh, hc⟩ := h
  have hrun : (execOp a.eval o).run P w1 = .ok (.value (.slice (some ⟨b, 0, none⟩) xs.length xs.length)) (w1.freeze ⟨b, xs.length, none⟩ 1) := by
    unfold execOp
    simp only [ho, hx]
    simp [convert, run_underlying ht, run_underlying he, markStringish, hsh, Sem.run_bind]
  have hblt := shape_lt hsh
  have hother : ∀ k, k ≠ b → (w1.freeze ⟨b, xs.length, none⟩ 1).heap[k]? = w1.heap[k]? := by
    intro k hk
    unfold World.freeze
    split
    · rfl
    · show (w1.heap.modify b _)[k]? = _
      rw [Array.getElem?_modify, if_neg (fun e => hk e.symm)]
  have hsz : (w1.freeze ⟨b, xs.length, none⟩ 1).heap.size = w1.heap.size := by unfold World.freeze; split <;> simp
  have hsame : (w1.freeze ⟨b, xs.length, none⟩ 1).shape? b = w1.shape? b ∧ ∀ i, (w1.freeze ⟨b, xs.length, none⟩ 1).cell? ⟨b, i, none⟩ = w1.cell? ⟨b, i, none⟩ := by
    unfold World.freeze
    split
    · exact ⟨rfl, fun _ => rfl⟩
    · unfold World.shape? World.cell?
      have hm : ∀ f, (w1.heap.modify b f)[b]? = (w1.heap[b]?).map f := fun f => by rw [Array.getElem?_modify, if_pos rfl]
      simp only [hm]
      cases hb : w1.heap[b]? with
      | none => simp
      | some ob => cases ob <;> simp
  have hM : Mk B w1 (w1.freeze ⟨b, xs.length, none⟩ 1) := by
    refine ⟨?_, ?_, ?_, by rw [hsz]; exact Nat.le_refl _, b, hB, fun k _ hk => hother k hk, hsame.1, fun i x h => by rw [hsame.2 i]; exact h⟩ <;> (unfold World.freeze; split <;> rfl)
  exact yieldsTo_val' hrun ⟨hM, NewR.presM _ _ _ hM ⟨b, rfl, hB, hsh, hc⟩⟩
end
end Go.Proofs.Ytjcnhpnadfhjaaa
