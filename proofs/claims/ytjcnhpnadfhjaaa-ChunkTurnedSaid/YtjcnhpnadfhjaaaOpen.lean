/- What the walks are told of arguments that are numbers, or flat rows of bytes; a slice of bytes, opened. -/
import Derived.Test.YtjcnhpnadfhjaaaOld
import Derived.ChangeSlices
namespace Go.Proofs.Ytjcnhpnadfhjaaa
open Go.ChangeShapes Go.WideShapes Go.RowKit

section
variable {P : Program} {w : World} {t e : TypeId} {v : Value} {base : Nat}

theorem ok_int {k : IntKind} (ht : P.underlying t = some (.int k)) (h : Value.okWide P w .any base t v) : ∃ n, v = .int k n ∧ k.min ≤ n ∧ n ≤ k.max := by
  obtain ⟨n, rfl⟩ := okWide_int ht h
  simp only [Value.okWide, ht, Cell.okWide, Cell.ok, IntKind.has] at h
  exact ⟨n, rfl, h.2.1, h.2.2⟩

theorem ok_flat {n : Nat} (ht : (P.underlying t).map (fun d => match d with | .struct _ => true | .array _ _ => true | _ => false) = some true) (hc : P.cellTypes P.depth t = some (List.replicate n e)) (hn : P.cellsOf t = n) (he : P.underlying e = some (.int .u8))
    (h : Value.okWide P w .any base t v) : ∃ xs : List Int, v = .agg (u8s xs).toArray ∧ xs.length = n ∧ ∀ i, i < xs.length → 0 ≤ xs[i]?.getD 0 ∧ xs[i]?.getD 0 < 256 := by
  have h' : ∃ cs, v = .agg cs ∧ cs.size = P.cellsOf t ∧ Row.okWide P w .any 0 t cs := by
    unfold Value.okWide at h
    cases hu : P.underlying t with
    | none => simp [hu] at ht
    | some d =>
      rw [hu] at h ht
      cases d <;> simp at ht <;> exact h
  obtain ⟨cs, rfl, hsz, ts, hts, _, hcell⟩ := h'
  rw [hc] at hts
  obtain rfl : List.replicate n e = ts := by simpa using hts
  have hone : ∀ i (hi : i < cs.size), ∃ x : Int, cs[i] = .int .u8 x ∧ 0 ≤ x ∧ x < 256 := by
    intro i hi
    obtain ⟨u, hu, hok⟩ := hcell i cs[i] (by simp [hi])
    have hne : u = e := by
      rw [List.getElem?_replicate] at hu
      split at hu
      · exact (Option.some.inj hu).symm
      · cases hu
    subst hne
    simp only [Cell.okWide, he] at hok
    have hok' : ∃ x : Int, cs[i] = .int .u8 x ∧ IntKind.u8.has x := by
      generalize cs[i] = c at hok
      cases c <;> simp only [Cell.ok, he] at hok
      exact ⟨_, by rw [hok.1], hok.2⟩
    obtain ⟨x, hx, h0, h1⟩ := hok'
    have e0 : IntKind.u8.min = 0 := rfl
    have e1 : IntKind.u8.max = 255 := rfl
    exact ⟨x, hx, by omega, by omega⟩
  refine ⟨cs.toList.map fun c => match c with | .int _ x => x | _ => 0, ?_, by simp [hsz, hn], ?_⟩
  · congr 1
    apply Array.ext
    · simp
    · intro i h1 h2
      obtain ⟨x, hx, _⟩ := hone i h1
      simp [ints, hx]
  · intro i hi
    have hi' : i < cs.size := by simpa using hi
    obtain ⟨x, hx, h0, h1⟩ := hone i hi'
    simp [hi', hx, h0, h1]

/-- a slice of bytes that came in -/
theorem open_bytes {H : Type} {enc : TypeId × Value → H} {d : DataW H} {ps : List MemPlace} (ht : P.underlying t = some (.slice e)) (he : P.underlying e = some (.int .u8)) (hs : P.cellsOf e = 1) (hv : Value.okWide P w .any base t v)
    (h : DataW.Trod enc P w 0 (fun _ => true) true t v d ps) : ∃ a l c bs, v = .slice a l c ∧ BytesAt w (.slice a l c) bs ∧ (∀ k, blk (Value.slice a l c) = some k → k < w.heap.size) ∧ bs.length = l ∧ ∀ i, i < bs.length → 0 ≤ bs[i]?.getD 0 ∧ bs[i]?.getD 0 < 256 := by
  obtain ⟨a, l, c, rfl⟩ := okWide_slice ht hv
  obtain ⟨fuel, hf⟩ := h
  obtain ⟨p, l', c', bs, hcs, h1, h2, h3⟩ := trod_bytes ht he hs hf
  simp [Value.cells] at hcs
  obtain ⟨rfl, rfl, rfl⟩ := hcs
  exact ⟨_, _, _, bs, rfl, h1.1, h1.2, h2, h3⟩
end
end Go.Proofs.Ytjcnhpnadfhjaaa
