/- what the laws over trees share. -/
import Derived.Test.YtfihlmnbonnekaaGreatLTold
import Derived.Test.YtfihlmnbonnekaaGreatCat
namespace Go.Proofs.YtfihlmnbonnekaaGreat
open Go.RowKit

section
variable {P : Program} {ops : Array Oper} {rest : List Oper} {o : Oper} {a : Act} {w : World} {Q : Exit → Act → World → Prop}
theorem st_valG (hw : Region.wanted o (yielded ops a.tmps) = true) {v : Value} (hrun : (execOp a.eval o).run P w = .ok (.value v) w) (h : wpList P ops Q rest (a.put o.dst v) w) : wpList P ops Q (o :: rest) a w :=
  BigFrame.wpList_want hw fun K hK => by unfold Oper.wp; rw [hrun, Oper.upon_value]; exact hK _ _ h
end
theorem Old.at1 {w : World} {p : Option Addr} {n c : Nat} {xs : List Int} (h : Old w (.slice p n c) xs) (h0 : 0 < xs.length) : ∃ g o, p = some ⟨g, o, none⟩ ∧ n = xs.length ∧ xs.length ≤ c := by
  obtain ⟨g, o, c2, e, hc⟩ := h.at0 h0
  cases e
  exact ⟨g, o, rfl, rfl, hc⟩
end Go.Proofs.YtfihlmnbonnekaaGreat
