/- lms, in plain Lean: a tree's nodes, how they lie in memory. -/
import Derived.Test.YtfihlmnbonnekaaPrgB
namespace Go.Proofs.Ytfihlmnbonnekaa
open Go.RowKit

def leafOf (id : List Int) (r : Nat) (x : List Int) : List Int := sha (frontq id r ++ ([130, 130] ++ x))
def innerOf (id : List Int) (r : Nat) (x y : List Int) : List Int := sha (frontq id r ++ ([131, 131] ++ (x ++ y)))
/-- the node number r, d levels above the leaves -/
def nodeD (id seed : List Int) (k : Nat) : Nat → Nat → List Int
  | 0, r => leafOf id r (pubOf id seed (r - 32) k)
  | d + 1, r => innerOf id r (nodeD id seed k d (2 * r)) (nodeD id seed k d (2 * r + 1))
def depN (r : Nat) : Nat := if 32 ≤ r then 0 else if 16 ≤ r then 1 else if 8 ≤ r then 2 else if 4 ≤ r then 3 else if 2 ≤ r then 4 else 5
def nodeOf (id seed : List Int) (k r : Nat) : List Int := nodeD id seed k (depN r) r
theorem nodeOf_leaf (id seed : List Int) (k : Nat) {r : Nat} (h : 32 ≤ r) : nodeOf id seed k r = leafOf id r (pubOf id seed (r - 32) k) := by
  unfold nodeOf
  rw [show depN r = 0 by unfold depN; rw [if_pos h]]
  rfl
theorem nodeOf_inner (id seed : List Int) (k : Nat) {r : Nat} (h0 : 0 < r) (h : r < 32) : nodeOf id seed k r = innerOf id r (nodeOf id seed k (2 * r)) (nodeOf id seed k (2 * r + 1)) := by
  have h1 : depN r = depN (2 * r) + 1 := by
    unfold depN
    repeat' split
    all_goals omega
  have h2 : depN (2 * r + 1) = depN (2 * r) := by
    unfold depN
    repeat' split
    all_goals omega
  unfold nodeOf
  rw [h1, h2]
  rfl
theorem nodeD_sha (id seed : List Int) (k d r : Nat) : ∃ x, nodeD id seed k d r = sha x := by
  cases d with
  | zero => exact ⟨_, rfl⟩
  | succ d => exact ⟨_, rfl⟩
theorem length_nodeOf (id seed : List Int) (k r : Nat) : (nodeOf id seed k r).length = 32 := by
  obtain ⟨x, h⟩ := nodeD_sha id seed k (depN r) r
  unfold nodeOf
  rw [h]
  rfl
theorem isBytes_nodeOf (id seed : List Int) (k r : Nat) : IsBytes (nodeOf id seed k r) := by
  obtain ⟨x, h⟩ := nodeD_sha id seed k (depN r) r
  unfold nodeOf
  rw [h]
  exact isBytes_sha _

/-- the nodes above j, zeros elsewhere -/
def tblF (N : Nat → List Int) (j i : Nat) : List Int := if j < i then N i else List.replicate 32 0
def tblOf (N : Nat → List Int) (j : Nat) : List Int := flatX (tblF N j) 64
section
variable {N : Nat → List Int}
theorem length_tblF (hN : ∀ r, (N r).length = 32) (j i : Nat) : (tblF N j i).length = 32 := by
  unfold tblF
  split
  · exact hN i
  · simp
theorem length_tblOf (hN : ∀ r, (N r).length = 32) (j : Nat) : (tblOf N j).length = 2048 := length_flatX (length_tblF hN j) 64
theorem flatX_zeros : ∀ n, flatX (fun _ => List.replicate 32 (0 : Int)) n = List.replicate (32 * n) 0
  | 0 => rfl
  | n + 1 => by rw [flatX_succ, flatX_zeros n, List.replicate_append_replicate]; rfl
theorem tblOf_start : tblOf N 63 = List.replicate 2048 0 := by
  have e : tblOf N 63 = flatX (fun _ => List.replicate 32 0) 64 := flatX_congr fun n hn => by unfold tblF; rw [if_neg (by omega)]
  rw [e, flatX_zeros]
theorem splice_app {α : Type} {A B x : List α} {o : Nat} (h : o + x.length ≤ A.length) : splice (A ++ B) o x = splice A o x ++ B := by
  unfold splice
  rw [List.take_append_of_le_length (by omega), List.drop_append_of_le_length (by omega)]
  simp
theorem splice_right {α : Type} {A B x : List α} {o n : Nat} (h : A.length = n) : splice (A ++ B) (n + o) x = A ++ splice B o x := by
  subst h
  unfold splice
  rw [List.take_append, List.drop_append, List.take_of_length_le (by omega), List.drop_of_length_le (by omega), show A.length + o - A.length = o by omega, show A.length + o + x.length - A.length = o + x.length by omega]
  simp
theorem splice_all {α : Type} {A x : List α} (h : A.length = x.length) : splice A 0 x = x := by
  unfold splice
  rw [List.take_zero, List.drop_of_length_le (by omega)]
  simp
theorem splice_flat {X Y : Nat → List Int} (hX : ∀ i, (X i).length = 32) {r : Nat} (hr : (Y r).length = 32) (hXY : ∀ i, i ≠ r → Y i = X i) : ∀ n, r < n → splice (flatX X n) (32 * r) (Y r) = flatX Y n
  | 0, h => by omega
  | n + 1, h => by
    have hl := length_flatX hX n
    rw [flatX_succ, flatX_succ]
    by_cases e : r = n
    · subst e
      have e2 := splice_right (B := X r) (x := Y r) (o := 0) hl
      rw [Nat.add_zero] at e2
      rw [e2, splice_all ((hX r).trans hr.symm), flatX_congr (X := X) (Y := Y) fun i hi => (hXY i (by omega)).symm]
    · rw [splice_app (by omega), splice_flat hX hr hXY n (by omega), hXY n (by omega)]
theorem tblOf_step (hN : ∀ r, (N r).length = 32) {r : Nat} (h : r < 63) : splice (tblOf N (r + 1)) (32 * (r + 1)) (N (r + 1)) = tblOf N r := by
  have e : tblF N r (r + 1) = N (r + 1) := by unfold tblF; rw [if_pos (by omega)]
  have h2 := splice_flat (X := tblF N (r + 1)) (Y := tblF N r) (r := r + 1) (length_tblF hN _) (length_tblF hN _ _) (fun i hi => by unfold tblF; split <;> split <;> first | rfl | omega) 64 (by omega)
  rw [e] at h2
  exact h2
theorem tblOf_get (hN : ∀ r, (N r).length = 32) {j i : Nat} (h : j < i) (h64 : i < 64) : ((tblOf N j).drop (32 * i)).take 32 = N i := by
  unfold tblOf
  rw [flatX_piece (length_tblF hN j) h64]
  unfold tblF
  rw [if_pos h]
theorem isBytes_tblOf (hN : ∀ r, IsBytes (N r)) (j : Nat) : IsBytes (tblOf N j) := isBytes_flatX (fun i => by
  unfold tblF
  split
  · exact hN i
  · exact isBytes_zeros 32) 64
end

/-- a tree's cells: its secret, its width, whether it is made, the lock, its nodes, how many were made -/
def treeG (ss : List Int) (k : Nat) (d l : Int) (ns : List Int) (m : Int) : List Value := (u8s ss ++ [.int .i64 k]) ++ .int .u32 d :: .int .i32 l :: (.int .u32 0 :: (u8s ns ++ [.int .i64 m]))
section
variable {ss ns : List Int} {k : Nat} {d l m : Int}
theorem tg_len (h : ss.length = 48) (h2 : ns.length = 2048) : (treeG ss k d l ns m).length = 2101 := by simp [treeG, h, h2]
theorem tg_eq (h : ss.length = 48) : ∃ A : List Value, A.length = 52 ∧ treeG ss k d l ns m = A ++ (u8s ns ++ [.int .i64 m]) := ⟨(u8s ss ++ [.int .i64 k]) ++ [.int .u32 d, .int .i32 l, .int .u32 0], by simp [h], by simp [treeG]⟩
theorem tg_s {j : Nat} {v : Value} (hj : (u8s ss)[j]? = some v) : (treeG ss k d l ns m)[j]? = some v := by
  have h1 : j < (u8s ss).length := (List.getElem?_eq_some_iff.1 hj).1
  unfold treeG
  rw [List.append_assoc, List.getElem?_append_left h1]
  exact hj
theorem tg_k (h : ss.length = 48) : (treeG ss k d l ns m)[48]? = some (.int .i64 k) := by
  unfold treeG
  rw [List.append_assoc, List.getElem?_append_right (by simp [h])]
  simp [h]
theorem tg_d (h : ss.length = 48) : (treeG ss k d l ns m)[49]? = some (.int .u32 d) := by
  unfold treeG
  rw [List.getElem?_append_right (by simp [h])]
  simp [h]
theorem tg_n (h : ss.length = 48) {j : Nat} {v : Value} (hj : (u8s ns)[j]? = some v) : (treeG ss k d l ns m)[52 + j]? = some v := by
  obtain ⟨A, hA, e⟩ := tg_eq (k := k) (d := d) (l := l) (m := m) (ns := ns) h
  have h1 : j < (u8s ns).length := (List.getElem?_eq_some_iff.1 hj).1
  rw [e, List.getElem?_append_right (by omega), hA, show 52 + j - 52 = j by omega, List.getElem?_append_left h1]
  exact hj
theorem tg_m (h : ss.length = 48) (h2 : ns.length = 2048) : (treeG ss k d l ns m)[2100]? = some (.int .i64 m) := by
  obtain ⟨A, hA, e⟩ := tg_eq (k := k) (d := d) (l := l) (m := m) (ns := ns) h
  rw [e, List.getElem?_append_right (by omega), hA, List.getElem?_append_right (by simp [h2])]
  simp [h2]
theorem tg_splice (h : ss.length = 48) {o : Nat} {x ns' : List Int} (ho : o + x.length ≤ ns.length) (hs : splice ns o x = ns') : splice (treeG ss k d l ns m) (52 + o) (u8s x) = treeG ss k d l ns' m := by
  subst hs
  have e1 : u8s (splice ns o x) = splice (u8s ns) o (u8s x) := by
    unfold splice
    rw [u8s_app, u8s_app, length_ints]
    simp [ints, List.map_take, List.map_drop]
  unfold treeG
  rw [e1, ← splice_app (by simpa using ho), show ∀ A B C : Value, ∀ Z, (u8s ss ++ [Value.int .i64 k]) ++ A :: B :: C :: Z = ((u8s ss ++ [Value.int .i64 k]) ++ [A, B, C]) ++ Z by intros; simp]
  rw [splice_right (by simp [h])]
  simp
theorem tg_setm (h : ss.length = 48) (h2 : ns.length = 2048) (m' : Int) : (treeG ss k d l ns m).set 2100 (.int .i64 m') = treeG ss k d l ns m' := by
  unfold treeG
  rw [show ∀ A B C : Value, ∀ Y Z, (u8s ss ++ [Value.int .i64 k]) ++ A :: B :: C :: (Y ++ Z) = (((u8s ss ++ [Value.int .i64 k]) ++ [A, B, C]) ++ Y) ++ Z by intros; simp, List.set_append_right _ _ (by simp [h, h2])]
  simp [h, h2]
end
end Go.Proofs.Ytfihlmnbonnekaa
