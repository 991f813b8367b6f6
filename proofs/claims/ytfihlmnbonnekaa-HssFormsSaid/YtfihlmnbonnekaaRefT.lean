/- ots: the document's candidate. -/
import Derived.Test.YtfihlmnbonnekaaPrgB
namespace Go.Proofs.Ytfihlmnbonnekaa
open Go.RowKit

/-- a part of a slice, where it lies known -/
theorem rn_part {P : Program} {o : Oper} {a : Act} {w : World} {t e : TypeId} {x : Operand} {lo hi : Option Operand} (ho : o.op = .slice t x lo hi none) (hu : P.underlying t = some (.slice e)) (hs : (P.info? e).map (·.size) = some 1) {b off n c l h m d : Nat} (hx : a.eval x = .slice (some ⟨b, off, none⟩) n c)
    (hl : BoundIs (lo.map a.eval) 0 l) (hh : BoundIs (hi.map a.eval) n h) (h1 : l < h) (h2 : h ≤ n) (h3 : n ≤ c) (hm : h - l = m) (hd : c - l = d) : (execOp a.eval o).run P w = .ok (.value (.slice (some ⟨b, off + l, none⟩) m d)) w := by
  subst hm hd
  unfold execOp
  simp only [ho]
  generalize lo.map a.eval = lov at hl ⊢
  generalize hi.map a.eval = hiv at hh ⊢
  have e1 : h ≤ c := by omega
  have e2 : l ≤ h := by omega
  have e3 : ¬ c = l := by omega
  have e4 : l ≤ n := by omega
  cases hl with
  | no =>
    cases hh with
    | no => simp [hx, Instr.sliceAt, Instr.slice, Sem.run_bind, run_underlying hu, Instr.sliceBounds, run_sizeOf hs, add_plain]
    | yes h' =>
      subst h'
      simp [hx, Instr.sliceAt, Instr.slice, Sem.run_bind, run_underlying hu, Instr.sliceBounds, Instr.sliceBound, asIntOf, run_sizeOf hs, add_plain, e1]
  | yes h' =>
    subst h'
    cases hh with
    | no =>
      simp [hx, Instr.sliceAt, Instr.slice, Sem.run_bind, run_underlying hu, Instr.sliceBounds, Instr.sliceBound, asIntOf, run_sizeOf hs, add_plain, e4, e3]
    | yes h'' =>
      subst h''
      simp [hx, Instr.sliceAt, Instr.slice, Sem.run_bind, run_underlying hu, Instr.sliceBounds, Instr.sliceBound, asIntOf, run_sizeOf hs, add_plain, e1, e2, e3]

theorem Old.part {w : World} {b off n c l m d : Nat} {xs : List Int} (h : Old w (.slice (some ⟨b, off, none⟩) n c) xs) (hn : n = xs.length) (hlm : l + m ≤ n) (hm : 0 < m) (hd : m ≤ d) : Old w (.slice (some ⟨b, off + l, none⟩) m d) ((xs.drop l).take m) := by
  have hl2 : ((xs.drop l).take m).length = m := by rw [List.length_take, List.length_drop]; omega
  obtain ⟨h1, h2⟩ := h
  have hb : b < w.heap.size := World.block_lt_of_cell? w _ (byte_of h1 (show 0 < xs.length by omega))
  refine ⟨?_, fun k hk => by obtain rfl := (blk_some hk).1; exact hb⟩
  rw [BytesAt, hl2]
  refine Or.inr ⟨b, off + l, d, rfl, ⟨hd, fun h => by omega⟩, fun i x hx => ?_⟩
  have hi : i < m := by have := (List.getElem?_eq_some_iff.1 hx).1; simp at this; omega
  rw [ints_get (by rw [hl2]; exact hi)] at hx
  cases hx
  rw [Nat.add_assoc, byte_of h1 (show l + i < xs.length by omega)]
  congr 2
  rw [List.getElem?_take_of_lt hi, List.getElem?_drop]

theorem Old.at0 {w : World} {v : Value} {xs : List Int} (h : Old w v xs) (h0 : 0 < xs.length) : ∃ b off c, v = .slice (some ⟨b, off, none⟩) xs.length c ∧ xs.length ≤ c := by
  obtain ⟨h1, _⟩ := h
  rcases h1 with ⟨_, h2, _⟩ | ⟨b, off, c, rfl, h2, _⟩
  · omega
  · exact ⟨b, off, c, rfl, h2.1⟩

end Go.Proofs.Ytfihlmnbonnekaa
