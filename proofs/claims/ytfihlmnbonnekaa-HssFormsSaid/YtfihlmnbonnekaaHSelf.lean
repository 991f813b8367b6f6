/- hss: a key's own signature holds (plain). -/
import Derived.Test.YtfihlmnbonnekaaHPub
namespace Go.Proofs.Ytfihlmnbonnekaa
open Go.RowKit

set_option linter.unusedVariables false
theorem num4_small {q : Nat} (hq : q < 32) (xs : List Int) : num4V (numB q 4 ++ xs) false = q := by
  unfold num4V
  rw [if_neg (by simp [length_numB]), beN_small q hq]
/-- a two-level signature: its parts -/
def sgL2 (id sd : List Int) (k q r : Nat) (msg : List Int) : List Int := numB 1 4 ++ lsigOf id sd k q (pubL (cidOf id sd q) (csdOf id sd q) k) ++ pubL (cidOf id sd q) (csdOf id sd q) k ++ lsigOf (cidOf id sd q) (csdOf id sd q) k r msg
theorem length_sgL2 (id sd : List Int) (k q r : Nat) (msg : List Int) : (sgL2 id sd k q r msg).length = 4 + sizeOfL k + 56 + sizeOfL k := by
  unfold sgL2
  rw [List.length_append, List.length_append, List.length_append, length_numB, length_lsigOf, length_lsigOf, length_pubL (length_cidOf id sd q)]
theorem isBytes_sgL2 (id sd : List Int) (k q r : Nat) (msg : List Int) : IsBytes (sgL2 id sd k q r msg) :=
  isBytes_app (isBytes_app (isBytes_app (isBytes_numB _ _) (isBytes_lsigOf _ _ _ _ _)) (isBytes_pubL (isBytes_cidOf id sd q) _ _)) (isBytes_lsigOf _ _ _ _ _)
theorem hver_self2 {id : List Int} (h16 : id.length = 16) (sd : List Int) {k : Nat} (hk : k = 1 ∨ k = 2 ∨ k = 4 ∨ k = 8) {q r : Nat} (hq : q < 32) (hr : r < 32) (msg : List Int) : hverL (numB 2 4 ++ pubL id sd k) msg (sgL2 id sd k q r msg) = 0 := by
  have c16 := length_cidOf id sd q
  have hpl := length_pubL h16 sd k
  have hcl := length_pubL c16 (csdOf id sd q) k
  have hPd : (numB 2 4 ++ pubL id sd k).drop 4 = pubL id sd k := List.drop_left' (length_numB _ _)
  have hPl : (numB 2 4 ++ pubL id sd k).length = 60 := by rw [List.length_append, length_numB, hpl]
  have hP2 : num4V (numB 2 4 ++ pubL id sd k) false = 2 := num4_small (q := 2) (by decide) _
  have hS : sgL2 id sd k q r msg = numB 1 4 ++ (lsigOf id sd k q (pubL (cidOf id sd q) (csdOf id sd q) k) ++ (pubL (cidOf id sd q) (csdOf id sd q) k ++ lsigOf (cidOf id sd q) (csdOf id sd q) k r msg)) := by unfold sgL2; simp only [List.append_assoc]
  have hSl := length_sgL2 id sd k q r msg
  have hS1 : num4V (sgL2 id sd k q r msg) false = 1 := by rw [hS]; exact num4_small (q := 1) (by decide) _
  have hSd : (sgL2 id sd k q r msg).drop 4 = lsigOf id sd k q (pubL (cidOf id sd q) (csdOf id sd q) k) ++ (pubL (cidOf id sd q) (csdOf id sd q) k ++ lsigOf (cidOf id sd q) (csdOf id sd q) k r msg) := by rw [hS, List.drop_left' (length_numB _ _)]
  have hl1 := length_lsigOf id sd k q (pubL (cidOf id sd q) (csdOf id sd q) k)
  have hl2 := length_lsigOf (cidOf id sd q) (csdOf id sd q) k r msg
  have hSm : ((sgL2 id sd k q r msg).drop 4).drop (sizeOfL k) = pubL (cidOf id sd q) (csdOf id sd q) k ++ lsigOf (cidOf id sd q) (csdOf id sd q) k r msg := by rw [hSd, List.drop_left' hl1]
  have hSt : ((sgL2 id sd k q r msg).drop 4).take (sizeOfL k) = lsigOf id sd k q (pubL (cidOf id sd q) (csdOf id sd q) k) := by rw [hSd, List.take_left' hl1]
  have hw := width_pubL h16 sd hk
  have hwc := width_pubL c16 (csdOf id sd q) hk
  unfold hverL
  rw [hPd, hw, hSm, hSt, List.take_left' hcl, List.drop_left' hcl, hwc, ver_sig h16 sd hk hq, ver_sig c16 (csdOf id sd q) hk hr, hP2, hS1, hPl]
  rw [if_pos ⟨rfl, Or.inr rfl, by omega⟩, if_pos ⟨by omega, by decide⟩, if_neg (by decide), if_pos ⟨by rw [List.length_drop]; omega, by omega, rfl⟩]
/-! what stands where -/
set_option maxRecDepth 100000 in
theorem sg_at {id sd : List Int} {q r : Nat} (hq : q < 32) (hr : r < 32) (msg : List Int) : (sgL2 id sd 2 q r msg)[3]? = some 1 ∧ (sgL2 id sd 2 q r msg)[7]? = some (q : Int) ∧ (sgL2 id sd 2 q r msg)[4523]? = some (r : Int) ∧ ((sgL2 id sd 2 q r msg).drop 4472).take 16 = cidOf id sd q := by
  have c16 := length_cidOf id sd q
  have hcl := length_pubL c16 (csdOf id sd q) 2
  have hl1 := length_lsigOf id sd 2 q (pubL (cidOf id sd q) (csdOf id sd q) 2)
  have h2 : sizeOfL 2 = 4460 := by kernel_rfl
  have hS : sgL2 id sd 2 q r msg = numB 1 4 ++ (lsigOf id sd 2 q (pubL (cidOf id sd q) (csdOf id sd q) 2) ++ (pubL (cidOf id sd q) (csdOf id sd q) 2 ++ lsigOf (cidOf id sd q) (csdOf id sd q) 2 r msg)) := by unfold sgL2; simp only [List.append_assoc]
  have n1 := length_numB 1 4
  have hd1 : ∀ j, (sgL2 id sd 2 q r msg)[4 + j]? = (lsigOf id sd 2 q (pubL (cidOf id sd q) (csdOf id sd q) 2) ++ (pubL (cidOf id sd q) (csdOf id sd q) 2 ++ lsigOf (cidOf id sd q) (csdOf id sd q) 2 r msg))[j]? := fun j => by
    rw [hS, List.getElem?_append_right (by omega), n1, Nat.add_sub_cancel_left]
  have hd2 : ∀ j, (sgL2 id sd 2 q r msg)[4520 + j]? = (lsigOf (cidOf id sd q) (csdOf id sd q) 2 r msg)[j]? := fun j => by
    rw [show 4520 + j = 4 + (4516 + j) by omega, hd1, List.getElem?_append_right (by omega), List.getElem?_append_right (by omega), hl1, h2, hcl, show 4516 + j - 4460 - 56 = j by omega]
  have hls : ∀ (a b : List Int) (p : Nat) (m : List Int), p < 32 → (lsigOf a b 2 p m)[3]? = some (p : Int) := fun a b p m hp => by
    rw [lsig_eq, numB_small p hp]; rfl
  refine ⟨?_, ?_, ?_, ?_⟩
  · rw [hS]
    rfl
  · rw [show (7 : Nat) = 4 + 3 from rfl, hd1, List.getElem?_append_left (by omega)]
    exact hls _ _ _ _ hq
  · rw [show (4523 : Nat) = 4520 + 3 from rfl, hd2]
    exact hls _ _ _ _ hr
  · rw [hS, show (4472 : Nat) = 4 + (4460 + 8) from rfl, ← List.drop_drop, List.drop_left' n1, ← List.drop_drop, List.drop_left' (by rw [hl1, h2])]
    unfold pubL
    simp only [List.append_assoc]
    rw [show (8 : Nat) = 4 + 4 from rfl, ← List.drop_drop, List.drop_left' (length_numB _ _), List.drop_left' (length_numB _ _), List.take_left' c16]

end Go.Proofs.Ytfihlmnbonnekaa
