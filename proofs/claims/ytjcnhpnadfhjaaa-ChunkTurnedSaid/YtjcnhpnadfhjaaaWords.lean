/- Small facts of lists of whole numbers, for the loops that fill the words of a block. -/
import Derived.Test.YtjcnhpnadfhjaaaSha
import Derived.Test.YtjcnhpnadfhjaaaMem
namespace Go.Proofs.Ytjcnhpnadfhjaaa

theorem getD_take {xs ys : List Int} {i j : Nat} (h : xs.take i = ys) (hj : j < i) : xs[j]?.getD 0 = ys[j]?.getD 0 := by
  subst h
  simp [hj]

theorem take_set {xs ys : List Int} {i : Nat} {v : Int} (h : xs.take i = ys) (hi : i < xs.length) : (xs.set i v).take (i + 1) = ys ++ [v] := by
  subst h
  rw [List.take_succ_eq_append_getElem (by simpa using hi)]
  simp [List.take_set_of_le]

theorem length_words (bs : List Int) (p n : Nat) : (words bs p n).length = n := by
  induction n with
  | zero => rfl
  | succ n ih => simp [words, ih]

theorem length_sched (m : List Int) (n : Nat) : (sched m n).length = m.length + n := by
  induction n with
  | zero => rfl
  | succ n ih => simp [sched, ih]; omega

theorem some_getD {xs : List Int} {i : Nat} (h : i < xs.length) : xs[i]? = some (xs[i]?.getD 0) := by
  simp [h]

end Go.Proofs.Ytjcnhpnadfhjaaa
