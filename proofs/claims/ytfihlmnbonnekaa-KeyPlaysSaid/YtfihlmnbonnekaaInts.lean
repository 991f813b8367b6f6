/- arguments that are slices of whole numbers. -/
import Derived.Test.YtfihlmnbonnekaaKind
namespace Go.Proofs.Ytfihlmnbonnekaa
open Go.RowKit Go.ChangeShapes

/-- a slice of whole numbers that was there -/
structure OldI (w : World) (v : Value) (xs : List Int) : Prop where
  sl : SlAt w v xs.length (i64s xs)
  lt : ∀ k, blk v = some k → k < w.heap.size
  rg : ∀ x ∈ xs, IntKind.i64.min ≤ x ∧ x ≤ IntKind.i64.max
section
variable {P : Program} {w : World} {t e : TypeId} {v : Value} {base : Nat} {H : Type} {enc : TypeId × Value → H}
theorem trod_i64s {fuel : Nat} {cs : List Value} {x : DataW H × List MemPlace} (ht : P.underlying t = some (.slice e)) (he : P.underlying e = some (.int .i64)) (hs : P.cellsOf e = 1)
    (hf : DataW.trod enc P w 0 (fun _ => true) true fuel t cs = some x) :
    ∃ p l c bs, cs = [.slice p l c] ∧ OldI w (.slice p l c) bs ∧ bs.length = l := by
  rcases open_ints ht he hs hf with ⟨rfl, _⟩ | ⟨⟨b, off, spot⟩, l, c, zs, rfl, _, hl, hm, hz, _, hcell, hwz⟩
  · exact ⟨none, 0, 0, [], rfl, ⟨Or.inl ⟨⟨_, rfl⟩, rfl, rfl⟩, (by intro k hk; cases hk), by simp⟩, rfl⟩
  · have hz' : zs.length = c := by simpa using hz
    have hlen : (zs.take l).length = l := by rw [List.length_take]; omega
    have hrange : ∀ x ∈ zs.take l, IntKind.i64.min ≤ x ∧ x ≤ IntKind.i64.max := by
      intro x hx
      have hw := hwz x (List.mem_of_mem_take hx)
      simpa [Lit.wf] using hw
    by_cases hc0 : c = 0
    · subst hc0
      obtain rfl : l = 0 := by omega
      exact ⟨_, 0, 0, [], rfl, ⟨Or.inl ⟨⟨_, rfl⟩, rfl, rfl⟩, (by intro k hk; rw [blk_zero] at hk; cases hk), by simp⟩, rfl⟩
    · have h0 := hcell 0 (by omega)
      have hadd : (⟨b, off, spot⟩ : Addr).add 0 = ⟨b, off, spot⟩ := rfl
      rw [hadd] at h0
      have hb := World.block_lt_of_cell? w _ h0
      obtain rfl : spot = none := by
        unfold World.cell? at h0
        cases spot with
        | none => rfl
        | some s => split at h0 <;> simp at h0
      refine ⟨_, l, c, zs.take l, rfl, ⟨?_, ?_, hrange⟩, hlen⟩
      · refine Or.inr ⟨b, off, c, by rw [hlen], ⟨by omega, fun h => by rw [List.eq_nil_of_length_eq_zero h]; rfl⟩, fun i v hv => ?_⟩
        have hi : i < (zs.take l).length := by
          rcases Nat.lt_or_ge i (zs.take l).length with h | h
          · exact h
          · rw [List.getElem?_eq_none (by simpa [ints] using h)] at hv; cases hv
        have h1 := hcell i (by omega)
        rw [add_plain] at h1
        rw [h1, ints_get hi] at *
        simp only [Option.some.injEq] at hv
        subst hv
        have : i < zs.length := by omega
        have hi2 : i < l := by omega
        simp [this, hi2]
      · intro k hk
        obtain rfl := (blk_some hk).1
        exact hb
theorem open_i64s {d : DataW H} {ps : List MemPlace} (ht : P.underlying t = some (.slice e)) (he : P.underlying e = some (.int .i64)) (hs : P.cellsOf e = 1) (hv : Value.okWide P w .any base t v)
    (h : DataW.Trod enc P w 0 (fun _ => true) true t v d ps) : ∃ a l c bs, v = .slice a l c ∧ OldI w (.slice a l c) bs ∧ bs.length = l := by
  obtain ⟨a, l, c, rfl⟩ := Go.WideShapes.okWide_slice ht hv
  obtain ⟨fuel, hf⟩ := h
  obtain ⟨p, l', c', bs, hcs, h1, h2⟩ := trod_i64s ht he hs hf
  simp [Value.cells] at hcs
  obtain ⟨rfl, rfl, rfl⟩ := hcs
  exact ⟨_, _, _, bs, rfl, h1, h2⟩
end
theorem OldI.addr {w : World} {p : Option Addr} {n c : Nat} {xs : List Int} (h : OldI w (.slice p n c) xs) (hn : 0 < xs.length) : ∃ b off, p = some ⟨b, off, none⟩ := by
  rcases h.sl with ⟨_, h0, _⟩ | ⟨b, off, cap, hv, _, _⟩
  · omega
  · cases hv; exact ⟨b, off, rfl⟩
theorem OldI.cellAt {w w1 : World} {b off n c : Nat} {xs : List Int} {L : List Ent} (h : OldI w (.slice (some ⟨b, off, none⟩) n c) xs) (ho : Own w w1 L) (hn : ∀ k ∈ L.map (·.1), w.heap.size ≤ k) {i : Nat} {x : Int} (hx : xs[i]? = some x) :
    w1.cell? ⟨b, off + i * 1, none⟩ = some (.int .i64 x) := by
  have hi := (List.getElem?_eq_some_iff.1 hx).1
  have h1 : SlAt w1 (.slice (some ⟨b, off, none⟩) n c) xs.length (i64s xs) := SlAt.own h.sl ho (fun j hj hm => by have := h.lt j hj; have := hn j hm; omega)
  rcases h1 with ⟨_, h0, _⟩ | ⟨b', off', cap, hv, _, hc⟩
  · omega
  · cases hv
    rw [Nat.mul_one]
    exact hc i _ (by simp [ints, hx])

end Go.Proofs.Ytfihlmnbonnekaa
