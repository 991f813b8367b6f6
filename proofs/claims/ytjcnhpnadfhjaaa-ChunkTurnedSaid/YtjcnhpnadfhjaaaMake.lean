/- make of a slice; the bytes of a string. No dump, no condition. -/
import Derived.Test.YtjcnhpnadfhjaaaConv
import Derived.Laws.MakeOwn
namespace Go.Proofs.Ytjcnhpnadfhjaaa
open Go.RowKit

section
variable {P : Program} {ops : Array Oper} {rest : List Oper} {o : Oper} {a : Act} {w w0 : World} {Q : Exit → Act → World → Prop} {L L' : List Ent}

theorem madeCells_one (v : Value) (n : Nat) : madeCells #[v] n = (List.replicate n v).toArray := by
  apply Array.ext
  · simp [madeCells]
  · intro i h1 h2
    have hi : i < n := by simpa [madeCells] using h1
    simp [madeCells, Nat.mod_one]

/-- make([]T, n) of one-cell elements -/
theorem rn_make (H : Own w0 w L) {t : TypeId} {x y : Operand} (ho : o.op = .makeSlice t x y) {e : TypeId} {v : Value} {by_ : Nat} (ht : P.underlying t = some (.slice e))
    (he : ((P.info? e).bind fun i => i.zero.map fun z => (i.size, i.bytes, z.cells.toList)) = some (1, by_, [v])) {k1 k2 : IntKind} {z1 z2 : Int} {n : Nat} (hx : a.eval x = .int k1 z1) (hy : a.eval y = .int k2 z2) (h1 : z1 = n) (h2 : z2 = n) (hb : by_ * n ≤ 281474976710656) (h63 : n ≤ 9223372036854775807) :
    ∃ b w', (execOp a.eval o).run P w = .ok (.value (.slice (some ⟨b, 0, none⟩) n n)) w' ∧ w0.heap.size ≤ b ∧ Own w0 w' ((b, List.replicate n v, e) :: L) := by
  subst h1 h2
  cases hi : P.info? e with
  | none => simp [hi] at he
  | some i =>
    cases hz : i.zero with
    | none => simp [hi, hz] at he
    | some z =>
      simp [hi, hz] at he
      obtain ⟨hs, hby, hc⟩ := he
      have hzc : z.cells = #[v] := by rw [← Array.toList_inj]; exact hc
      have hb' : (i.bytes : Int) * (n : Int) ≤ 281474976710656 := by
        have h : ((i.bytes * n : Nat) : Int) ≤ 281474976710656 := by rw [hby]; exact Int.ofNat_le.2 hb
        rwa [Int.natCast_mul] at h
      have hr := run_make (P := P) w t e i z ht hi hz k1 k2 n n (by omega) (Int.le_refl _) hb' (by omega)
      simp only [Int.toNat_natCast, hs, Nat.mul_one, hzc, madeCells_one] at hr
      refine ⟨w.heap.size, _, ?_, H.size, H.alloc (List.replicate n v) e⟩
      unfold execOp
      simp only [ho, hx, hy, Sem.run_bind, hr, Result.andThen_ok]
      rfl

/-- the numbers of a string's bytes -/
def numsOf (s : ByteArray) : List Int := s.data.toList.map fun b => (b.toNat : Int)

theorem length_numsOf (s : ByteArray) : (numsOf s).length = s.size := by unfold numsOf; rw [List.length_map]; rfl

/-- []byte(s) -/
theorem rn_bytesOf {src dst e : TypeId} {x : Operand} (ho : o.op = .convert src dst x) (hs : P.underlying src = some .string) (hd : P.underlying dst = some (.slice e)) (he : P.underlying e = some (.int .u8)) {s : ByteArray} (hx : a.eval x = .string s) {n : Nat} (hn : s.size = n) :
    ∃ p c w', (execOp a.eval o).run P w = .ok (.value (.slice p n c)) w' ∧ Own w w' [] ∧ SlAt w' (.slice p n c) n (u8s (numsOf s)) ∧ ∀ k, blk (Value.slice p n c) = some k → k < w'.heap.size := by
  subst hn
  have hr := run_bytes_of_string (P := P) w src dst e s hs hd he
  refine ⟨some ⟨w.heap.size, 0, none⟩, grownCap w s.size 0 e, w.drew.alloc (.cells (bytesRow s (grownCap w s.size 0 e)) e ((bytesRow s (grownCap w s.size 0 e)).size, (bytesRow s (grownCap w s.size 0 e)).size + 1)), ?_, ⟨rfl, rfl, rfl, ?_, ?_, List.nodup_nil, (by intro b cs T h; cases h)⟩, ?_, ?_⟩
  · unfold execOp
    simp only [ho, hx, Sem.run_bind, hr, Result.andThen_ok]
    rfl
  · show w.heap.size ≤ (w.heap.push _).size
    rw [Array.size_push]; omega
  · intro k hk _
    exact Below.heap_alloc w.drew _ k hk
  · refine Or.inr ⟨w.heap.size, 0, _, rfl, ⟨grownCap_ge w s.size 0 e, fun h => List.eq_nil_of_length_eq_zero (by rw [length_ints, length_numsOf]; exact h)⟩, fun i v hv => ?_⟩
    have hi : i < s.data.size := by
      have := (List.getElem?_eq_some_iff.1 hv).1
      rw [length_ints, length_numsOf] at this
      exact this
    rw [Nat.zero_add]
    have hv' : v = .int .u8 (s.data[i].toNat : Int) := by
      have := hv
      simp [ints, numsOf] at this
      obtain ⟨x, hx, rfl⟩ := this
      rw [Array.getElem?_eq_getElem hi] at hx
      cases hx
      rfl
    rw [hv', ← bytesRow_at s (grownCap w s.size 0 e) i hi]
    exact World.cell?_alloc_mark ..
  · intro k hk
    obtain rfl := (blk_some hk).1
    show w.heap.size < (w.heap.push _).size
    rw [Array.size_push]; omega
end
end Go.Proofs.Ytjcnhpnadfhjaaa
