/- lms, in plain Lean: a tree's nodes, how they lie in memory. -/
import Derived.Test.YtfihlmnbonnekaaGreatPrgB
namespace Go.Proofs.YtfihlmnbonnekaaGreat
open Go.RowKit

def leafOf (id : List Int) (r : Nat) (x : List Int) : List Int := sha (frontq id r ++ ([130, 130] ++ x))
def innerOf (id : List Int) (r : Nat) (x y : List Int) : List Int := sha (frontq id r ++ ([131, 131] ++ (x ++ y)))
/-- the node number r, d levels above the leaves -/
def nodeD (id seed : List Int) (k : Nat) : Nat → Nat → List Int
  | 0, r => leafOf id r (pubOf id seed (r - 32) k)
  | d + 1, r => innerOf id r (nodeD id seed k d (2 * r)) (nodeD id seed k d (2 * r + 1))
def depN (r : Nat) : Nat := if 32 ≤ r then 0 else if 16 ≤ r then 1 else if 8 ≤ r then 2 else if 4 ≤ r then 3 else if 2 ≤ r then 4 else 5
def nodeOf (id seed : List Int) (k r : Nat) : List Int := nodeD id seed k (depN r) r
theorem nodeD_sha (id seed : List Int) (k d r : Nat) : ∃ x, nodeD id seed k d r = sha x := by
  cases d with
  | zero => exact ⟨_, rfl⟩
  | succ d => exact ⟨_, rfl⟩
theorem length_nodeOf (id seed : List Int) (k r : Nat) : (nodeOf id seed k r).length = 32 := by
  obtain ⟨x, h⟩ := nodeD_sha id seed k (depN r) r
  unfold nodeOf
  rw [h]
  rfl
/-- the nodes above j, zeros elsewhere -/
def tblF (N : Nat → List Int) (j i : Nat) : List Int := if j < i then N i else List.replicate 32 0
def tblOf (N : Nat → List Int) (j : Nat) : List Int := flatX (tblF N j) 64
section
variable {N : Nat → List Int}
theorem length_tblF (hN : ∀ r, (N r).length = 32) (j i : Nat) : (tblF N j i).length = 32 := by
  unfold tblF
  split
  · exact hN i
  · simp
theorem splice_app {α : Type} {A B x : List α} {o : Nat} (h : o + x.length ≤ A.length) : splice (A ++ B) o x = splice A o x ++ B := by
  unfold splice
  rw [List.take_append_of_le_length (by omega), List.drop_append_of_le_length (by omega)]
  simp
theorem splice_right {α : Type} {A B x : List α} {o n : Nat} (h : A.length = n) : splice (A ++ B) (n + o) x = A ++ splice B o x := by
  subst h
  unfold splice
  rw [List.take_append, List.drop_append, List.take_of_length_le (by omega), List.drop_of_length_le (by omega), show A.length + o - A.length = o by omega, show A.length + o + x.length - A.length = o + x.length by omega]
  simp
theorem splice_all {α : Type} {A x : List α} (h : A.length = x.length) : splice A 0 x = x := by
  unfold splice
  rw [List.take_zero, List.drop_of_length_le (by omega)]
  simp
theorem tblOf_get (hN : ∀ r, (N r).length = 32) {j i : Nat} (h : j < i) (h64 : i < 64) : ((tblOf N j).drop (32 * i)).take 32 = N i := by
  unfold tblOf
  rw [flatX_piece (length_tblF hN j) h64]
  unfold tblF
  rw [if_pos h]
end

/-- a tree's cells: its secret, its width, whether it is made, the lock, its nodes, how many were made -/
def treeG (ss : List Int) (k : Nat) (d l : Int) (ns : List Int) (m : Int) : List Value := (u8s ss ++ [.int .i64 k]) ++ .int .u32 d :: .int .i32 l :: (.int .u32 0 :: (u8s ns ++ [.int .i64 m]))
section
variable {ss ns : List Int} {k : Nat} {d l m : Int}
theorem tg_len (h : ss.length = 48) (h2 : ns.length = 2048) : (treeG ss k d l ns m).length = 2101 := by simp [treeG, h, h2]
theorem tg_eq (h : ss.length = 48) : ∃ A : List Value, A.length = 52 ∧ treeG ss k d l ns m = A ++ (u8s ns ++ [.int .i64 m]) := ⟨(u8s ss ++ [.int .i64 k]) ++ [.int .u32 d, .int .i32 l, .int .u32 0], by simp [h], by simp [treeG]⟩
theorem tg_s {j : Nat} {v : Value} (hj : (u8s ss)[j]? = some v) : (treeG ss k d l ns m)[j]? = some v := by
  have h1 : j < (u8s ss).length := (List.getElem?_eq_some_iff.1 hj).1
  unfold treeG
  rw [List.append_assoc, List.getElem?_append_left h1]
  exact hj
theorem tg_k (h : ss.length = 48) : (treeG ss k d l ns m)[48]? = some (.int .i64 k) := by
  unfold treeG
  rw [List.append_assoc, List.getElem?_append_right (by simp [h])]
  simp [h]
theorem tg_n (h : ss.length = 48) {j : Nat} {v : Value} (hj : (u8s ns)[j]? = some v) : (treeG ss k d l ns m)[52 + j]? = some v := by
  obtain ⟨A, hA, e⟩ := tg_eq (k := k) (d := d) (l := l) (m := m) (ns := ns) h
  have h1 : j < (u8s ns).length := (List.getElem?_eq_some_iff.1 hj).1
  rw [e, List.getElem?_append_right (by omega), hA, show 52 + j - 52 = j by omega, List.getElem?_append_left h1]
  exact hj
end
end Go.Proofs.YtfihlmnbonnekaaGreat
