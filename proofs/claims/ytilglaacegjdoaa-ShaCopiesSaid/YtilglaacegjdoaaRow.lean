/- What the walks are told of a slice of bytes that came in. -/
import Derived.Test.YtilglaacegjdoaaMem
import Derived.WalkKit
import Derived.ProofKit
import Derived.OpenShut
import Derived.Below
namespace Go.Proofs.Ytilglaacegjdoaa
open Go.ChangeShapes Go.WideShapes Go.ChangeAt Go.RowKit

/-- nil; or a row of 'cap' cells, the numbers 'zs' (the first 'len' are its elements, the rest its spare room), each fitting its kind -/
def IsRow (k : IntKind) (w : World) (a : Option Addr) (len cap : Nat) (zs : List Int) : Prop :=
  (a = none ∧ len = 0 ∧ cap = 0 ∧ zs = []) ∨
  ∃ x, a = some x ∧ len ≤ cap ∧ cap ≤ maxLen ∧ zs.length = cap ∧ (∀ i, i < zs.length → w.cell? (x.add i) = some (.int k (zs.getD i 0))) ∧ ∀ n ∈ zs, (Lit.int k n).wf = true

/-- its address, where there is one -/
def IsAddr (w : World) (a : Option Addr) : Prop := a = none ∨ ∃ b off, a = some ⟨b, off, none⟩ ∧ b < w.heap.size

theorem ok_slice {P : Program} {t e : TypeId} {w : World} {base : Nat} {a : Option Addr} {l c : Nat} (ht : P.underlying t = some (.slice e)) (h : Value.okWide P w .any base t (.slice a l c)) : IsAddr w a := by
  cases a with
  | none => exact Or.inl rfl
  | some x =>
    have h2 : Cell.ok P w .any base t (.slice (some x) l c) := by
      unfold Value.okWide at h
      rw [ht] at h
      unfold Cell.okWide at h
      rw [ht] at h
      exact h
    unfold Cell.ok at h2
    rw [ht] at h2
    obtain ⟨_, _, _, hs, row, cells, hsh, _⟩ := h2
    obtain ⟨b, off, spot⟩ := x
    simp only at hs
    subst hs
    refine Or.inr ⟨b, off, rfl, ?_⟩
    unfold World.shape? at hsh
    rcases Nat.lt_or_ge b w.heap.size with h | h
    · exact h
    · rw [Array.getElem?_eq_none h] at hsh
      cases hsh

theorem IsRow.bytes {w : World} {a : Option Addr} {len cap : Nat} {zs : List Int} (h : IsRow .u8 w a len cap zs) (ha : IsAddr w a) : ∃ bs, BytesAt w (.slice a len cap) bs ∧ (∀ k, (Value.slice a len cap).ownBlock = some k → k < w.heap.size) ∧ bs.length = len := by
  rcases h with ⟨rfl, rfl, rfl, rfl⟩ | ⟨x, rfl, hl, hm, hz, hcell, hwf⟩
  · exact ⟨[], Or.inl ⟨rfl, rfl, rfl⟩, (by intro k hk; cases hk), rfl⟩
  · rcases ha with h | ⟨b, off, hx, hlt⟩
    · cases h
    · cases hx
      have hlen : (zs.take len).length = len := by simp; omega
      refine ⟨zs.take len, ?_, (by intro k hk; cases hk; exact hlt), hlen⟩
      refine Or.inr ⟨b, off, cap, by rw [hlen], by omega, fun i v hv => ?_⟩
      have hi : i < (zs.take len).length := by
        rcases Nat.lt_or_ge i (zs.take len).length with h | h
        · exact h
        · rw [List.getElem?_eq_none (by simpa [ints] using h)] at hv; cases hv
      have h1 := hcell i (by omega)
      rw [Go.WideShapes.add_plain] at h1
      rw [h1, ints_get hi] at *
      simp only [Option.some.injEq] at hv
      subst hv
      have : i < zs.length := by omega
      have hi2 : i < len := by omega
      simp [this, hi2]
end Go.Proofs.Ytilglaacegjdoaa
