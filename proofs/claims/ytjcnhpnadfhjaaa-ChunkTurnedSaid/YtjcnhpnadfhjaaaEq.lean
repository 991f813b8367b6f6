/- '==' of two arrays of numbers. No dump, no condition. -/
import Derived.Test.YtjcnhpnadfhjaaaOps
import Derived.ChangeKeysEq
import Derived.Laws.StructEq
import Derived.Test.YtjcnhpnadfhjaaaRows
namespace Go.Proofs.Ytjcnhpnadfhjaaa
open Go.RowKit

section
variable {P : Program}

theorem run_part_int {e : TypeId} {k q : IntKind} (he : P.underlying e = some (.int q)) {xs : List Int} {j : Nat} (hj : j < xs.length) (w : World) : (part e (ints k xs).toArray j).run P w = .ok (.int k (xs[j]?.getD 0)) w := by
  have hg : (ints k xs).toArray[j]? = some (.int k (xs[j]?.getD 0)) := by simpa using ints_get (k := k) hj
  unfold part
  simp only [Sem.run_bind, run_isAgg he, plainDesc, Bool.not_true, Result.andThen_ok, Bool.false_eq_true, if_false, hg, Sem.run_pure]

theorem run_eqItems_ints (d : Nat) {e : TypeId} {k q : IntKind} (he : P.underlying e = some (.int q)) (xs ys : List Int) (w : World) : ∀ (is : List Nat), (∀ j ∈ is, j < xs.length ∧ j < ys.length) →
    (Op.eqItems (d + 1) e 1 (ints k xs).toArray (ints k ys).toArray is).run P w = .ok (is.all fun j => xs[j]?.getD 0 == ys[j]?.getD 0) w
  | [], _ => rfl
  | j :: is, h => by
    have hj := h j (by simp)
    have ih := run_eqItems_ints d (k := k) he xs ys w is (fun j' hj' => h j' (by simp [hj']))
    simp only [Op.eqItems, Sem.run_bind, Nat.mul_one, run_part_int he hj.1, run_part_int he hj.2, Result.andThen_ok, run_equalIn_int w d e k q _ _ he, List.all_cons]
    cases hb : (xs[j]?.getD 0 == ys[j]?.getD 0)
    · simp [Sem.run_pure]
    · simp [ih]

theorem all_eq_iff {xs ys : List Int} (h : xs.length = ys.length) : ((List.range xs.length).all fun j => xs[j]?.getD 0 == ys[j]?.getD 0) = decide (xs = ys) := by
  rw [Bool.eq_iff_iff]
  simp only [List.all_eq_true, List.mem_range, beq_iff_eq, decide_eq_true_eq]
  constructor
  · intro ha
    apply List.ext_getElem h
    intro i h1 h2
    have := ha i h1
    simpa [h1, h2] using this
  · rintro rfl _ _; rfl

theorem run_eqInts {D : Nat} (d : Nat) (hD : D = d + 2) {t e : TypeId} {k q : IntKind} {n : Nat} (hu : P.underlying t = some (.array n e)) (he : P.underlying e = some (.int q)) (hs : (P.info? e).map (·.size) = some 1) (xs ys : List Int) (hx : xs.length = n) (hy : ys.length = n) (w : World) :
    (Op.equalIn D t (.agg (ints k xs).toArray) (.agg (ints k ys).toArray)).run P w = .ok (decide (xs = ys)) w := by
  subst hD
  cases hi : P.info? e with
  | none => simp [hi] at hs
  | some i =>
    have h1 : P.cellsOf e = 1 := by simp [hi] at hs; simp [Program.cellsOf, hi, hs]
    rw [run_equalIn_array w (d + 1) _ _ hu hi, h1, run_eqItems_ints d he xs ys w _ (fun j hj => by rw [List.mem_range] at hj; omega), ← hx, all_eq_iff (by omega)]

end

set_option maxRecDepth 100000 in
theorem eqHash (w : World) (xs ys : List Int) (hx : xs.length = 32) (hy : ys.length = 32) : (Op.equalIn 10000 35 (.agg (u8s xs).toArray) (.agg (u8s ys).toArray)).run Try.prog w = .ok (decide (xs = ys)) w :=
  run_eqInts 9998 (by omega) (e := 5) (q := .u8) rfl rfl (by kernel_rfl) xs ys hx hy w

end Go.Proofs.Ytjcnhpnadfhjaaa
