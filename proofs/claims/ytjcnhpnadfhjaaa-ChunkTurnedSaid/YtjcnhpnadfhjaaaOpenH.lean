/- A slice of hashes that came in. -/
import Derived.Test.YtjcnhpnadfhjaaaEqH
import Derived.Test.YtjcnhpnadfhjaaaOpen
import Derived.OpenShut
namespace Go.Proofs.Ytjcnhpnadfhjaaa
open Go.RowKit Go.ChangeShapes Go.WideShapes

theorem hcells_at : ∀ (hs : List (List Int)), (∀ h ∈ hs, h.length = 32) → ∀ (t : Nat) (x : Value), (hcells hs)[t]? = some x → ∃ g, hs[t / 32]? = some g ∧ (u8s g)[t % 32]? = some x
  | [], _, t, x, h => by simp [hcells] at h
  | g :: hs, hl, t, x, h => by
    have hg := hl g (by simp)
    have h' : (u8s g ++ hcells hs)[t]? = some x := h
    by_cases ht : t < 32
    · rw [List.getElem?_append_left (by rw [length_ints, hg]; exact ht)] at h'
      exact ⟨g, by rw [Nat.div_eq_of_lt ht]; rfl, by rw [Nat.mod_eq_of_lt ht]; exact h'⟩
    · rw [List.getElem?_append_right (by rw [length_ints, hg]; omega), length_ints, hg] at h'
      obtain ⟨g2, h1, h2⟩ := hcells_at hs (fun h hh => hl h (by simp [hh])) (t - 32) x h'
      refine ⟨g2, ?_, by rw [show t % 32 = (t - 32) % 32 by omega]; exact h2⟩
      rw [show t / 32 = (t - 32) / 32 + 1 by omega]
      exact h1

section
variable {P : Program} {w : World} {t e : TypeId} {v : Value} {base : Nat} {H : Type} {enc : TypeId × Value → H}

theorem trod_hash {fuel : Nat} {cs : List Value} {x : DataW H × List MemPlace} (ht : P.underlying t = some (.array 32 e)) (he : P.underlying e = some (.int .u8)) (hs : P.cellsOf e = 1) (hc : P.cellsOf t = 32)
    (hf : DataW.trod enc P w 0 (fun _ => true) true fuel t cs = some x) : ∃ g : List Int, g.length = 32 ∧ cs = u8s g := by
  obtain ⟨xs, m, rfl, _, hl, hxl, hel⟩ := DataW.trod_array ht hf
  rw [hc] at hl
  have each : ∀ j, j < 32 → ∃ z : Int, cs[j]? = some (.int .u8 z) := by
    intro j hj
    have h1 := hel j hj
    rw [hs, Nat.mul_one] at h1
    have hjx : xs[j]? = some xs[j] := List.getElem?_eq_getElem (by omega)
    rw [hjx] at h1
    obtain ⟨z, hz, _, _⟩ := DataW.trod_int he h1
    refine ⟨z, ?_⟩
    have := congrArg (fun l => l[0]?) hz
    simpa using this
  obtain ⟨g, hg, hq⟩ := exists_list (n := 32) (Q := fun j z => cs[j]? = some (.int .u8 z)) each
  refine ⟨g, hg, List.ext_getElem? fun j => ?_⟩
  by_cases hj : j < 32
  · rw [hq j g[j] (List.getElem?_eq_getElem (by omega))]
    simp [ints, hg, hj]
  · rw [List.getElem?_eq_none (by omega), List.getElem?_eq_none (by rw [length_ints]; omega)]

/-- a slice of hashes that came in -/
theorem open_hashes {e2 : TypeId} {d : DataW H} {ps : List MemPlace} (ht : P.underlying t = some (.slice e2)) (he2 : P.underlying e2 = some (.array 32 e)) (he : P.underlying e = some (.int .u8)) (hs2 : P.cellsOf e2 = 32) (hs : P.cellsOf e = 1)
    (hv : Value.okWide P w .any base t v) (h : DataW.Trod enc P w 0 (fun _ => true) true t v d ps) : ∃ a l c hs, v = .slice a l c ∧ OldH w (.slice a l c) hs ∧ hs.length = l := by
  obtain ⟨a, l, c, rfl⟩ := okWide_slice ht hv
  obtain ⟨fuel, hf⟩ := h
  rcases DataW.trod_slice ht hf with ⟨hcs, _⟩ | ⟨a', l', c', elems, rest, n, _, hcs, _, hb, hl, hm, hlen, hel, hsp, _⟩
  · simp [Value.cells] at hcs
    obtain ⟨rfl, rfl, rfl⟩ := hcs
    exact ⟨none, 0, 0, [], rfl, ⟨Or.inl ⟨⟨_, rfl⟩, rfl, rfl⟩, (by intro k hk; cases hk), by simp⟩, rfl⟩
  · simp [Value.cells] at hcs
    obtain ⟨rfl, rfl, rfl⟩ := hcs
    by_cases hc0 : c = 0
    · subst hc0
      obtain rfl : l = 0 := by omega
      exact ⟨_, 0, 0, [], rfl, ⟨Or.inl ⟨⟨_, rfl⟩, rfl, rfl⟩, (by intro k hk; rw [blk_zero] at hk; cases hk), by simp⟩, rfl⟩
    · have one : ∀ i, i < c → ∃ g : List Int, g.length = 32 ∧ ∀ j, j < 32 → w.cell? ((a'.add (i * 32)).add j) = (u8s g)[j]? := by
        intro i hi
        obtain ⟨hrl, hr⟩ := hsp rfl
        have hb' : ∃ y, (w.cells? 0 (a'.add (i * P.cellsOf e2)) (P.cellsOf e2)).bind (DataW.trod enc P w 0 (fun _ => true) true n e2) = some y := by
          by_cases hil : i < l
          · exact ⟨_, (hel i hil).trans (List.getElem?_eq_getElem (by omega))⟩
          · have := hr (i - l) (by omega)
            rw [show l + (i - l) = i by omega] at this
            exact ⟨_, this.trans (List.getElem?_eq_getElem (by omega))⟩
        obtain ⟨y, hy⟩ := hb'
        rw [hs2, Option.bind_eq_some_iff] at hy
        obtain ⟨cs', h1, h2⟩ := hy
        obtain ⟨g, hg, rfl⟩ := trod_hash he2 he hs hs2 h2
        exact ⟨g, hg, (World.cells?_some h1).2.2⟩
      obtain ⟨g0, hg0, h0⟩ := one 0 (by omega)
      have h00 := h0 0 (by omega)
      obtain ⟨b, off, spot⟩ := a'
      have hadd : ((⟨b, off, spot⟩ : Addr).add (0 * 32)).add 0 = ⟨b, off, spot⟩ := rfl
      rw [hadd, ints_get (by omega)] at h00
      have hb2 := World.block_lt_of_cell? w _ h00
      obtain rfl : spot = none := by
        unfold World.cell? at h00
        cases spot with
        | none => rfl
        | some s => split at h00 <;> simp at h00
      obtain ⟨hsl, hhl, hq⟩ := exists_list (n := l) (Q := fun i g => g.length = 32 ∧ ∀ j, j < 32 → w.cell? ⟨b, off + i * 32 + j, none⟩ = (u8s g)[j]?) (fun i hi => by
        obtain ⟨g, hg, h1⟩ := one i (by omega)
        refine ⟨g, hg, fun j hj => ?_⟩
        have := h1 j hj
        rwa [add_plain, add_plain] at this)
      have hall : ∀ h ∈ hsl, h.length = 32 := fun h hh => by
        obtain ⟨i, hi⟩ := List.getElem?_of_mem hh
        exact (hq i h hi).1
      refine ⟨_, l, c, hsl, rfl, ⟨?_, ?_, hall⟩, hhl⟩
      · rw [hhl]
        refine Or.inr ⟨b, off, c, rfl, ⟨hl, fun h => by rw [List.eq_nil_of_length_eq_zero (hhl.trans h)]; rfl⟩, fun i x hx => ?_⟩
        obtain ⟨g, h1, h2⟩ := hcells_at hsl hall i x hx
        have h3 := (hq _ g h1).2 (i % 32) (by omega)
        rw [h2, show off + i / 32 * 32 + i % 32 = off + i by omega] at h3
        exact h3
      · intro k hk
        obtain rfl := (blk_some hk).1
        exact hb2
end
end Go.Proofs.Ytjcnhpnadfhjaaa
