/- More steps: arrays of structs, a result in a cell beside one in a temporary. No dump, no condition. -/
import Derived.Test.YtfihlmnbonnekaaShaF
namespace Go.Proofs.Ytfihlmnbonnekaa
open Go.RowKit

section
variable {P : Program} {ops : Array Oper} {rest : List Oper} {o : Oper} {a : Act} {w w0 : World} {Q : Exit → Act → World → Prop} {L L' : List Ent}

/-- an element of an array that is a value, the element a struct or an array -/
theorem rn_idxAggs {t e : TypeId} {x ix : Operand} (ho : o.op = .index t x ix) {n : Nat} (hu : P.underlying t = some (.array n e)) {sz : Nat} (hs : (P.info? e).map (·.size) = some sz) {d : TypeDesc} (hd : P.underlying e = some d) (hp : plainDesc d = false)
    {cs : Array Value} (hx : a.eval x = .agg cs) {ki : IntKind} {i : Int} (hj : a.eval ix = .int ki i) (h0 : 0 ≤ i) (h1 : i < n) {v : Value} (hv : Value.agg (cs.extract (i.toNat * sz) (i.toNat * sz + sz)) = v) : (execOp a.eval o).run P w = .ok (.value v) w := by
  subst hv
  unfold execOp
  simp only [ho, hx, hj, Instr.index, asIntOf, Sem.run_bind, Sem.run_pure, Result.andThen_ok, run_underlying hu]
  rw [if_pos ⟨h0, h1⟩]
  simp only [Sem.run_bind, run_sizeOf hs, Result.andThen_ok, part, run_isAgg hd, hp, Bool.not_false, if_true, Sem.run_pure]

/-- a return of a cell's value and a temporary's -/
theorem fin_cell2 {fn : Func} {R : Ending → World → Prop} {p ty q : Nat} (h : fn.results = #[.cell p ty, .tmp q]) (H : Own w0 w L) {b : Nat} (hp : a.tmps.getD p undef = .pointer (some ⟨b, 0, none⟩)) {cs : List Value} {T : TypeId} (hm : (b, cs, T) ∈ L)
    {d : TypeDesc} (hu : P.underlying ty = some d) (hd : plainDesc d = false) (hs : (P.info? ty).map (·.size) = some cs.length) {v : Value} (hv : a.tmps.getD q undef = v) (hdf : a.defers = []) (hR : R (.returned (.tuple #[.agg cs.toArray, v])) w) : bodyPost P fn R .ret a w := by
  refine bodyPost_ret (v := .tuple #[.agg cs.toArray, v]) ?_ hdf hR
  have hp' : a.tmps[p]?.getD undef = .pointer (some ⟨b, 0, none⟩) := by simpa using hp
  have hv' : a.tmps[q]?.getD undef = v := by simpa using hv
  have hl := run_loadVar_cells (P := P) (w := w) (b := b) (i := 0) (vs := cs) hu hd hs (fun j v hv => by rw [H.cell hm]; simpa using hv)
  simp [results, h, hp', hv', asAddr, hl]
end

end Go.Proofs.Ytfihlmnbonnekaa
