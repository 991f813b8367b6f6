/- hss: one byte more never holds (plain). -/
import Derived.Test.YtfihlmnbonnekaaGreatMg
namespace Go.Proofs.YtfihlmnbonnekaaGreat
open Go.RowKit
set_option maxHeartbeats 32000000
set_option linter.unusedVariables false
theorem sizeL_mod (k : Nat) : sizeOfL k % 32 = 12 := by unfold sizeOfL; omega
theorem hver_long2 {id : List Int} (h16 : id.length = 16) (sd : List Int) {k : Nat} (hk : k = 1 ∨ k = 2 ∨ k = 4 ∨ k = 8) (msg S : List Int) (hl : S.length = 4 + sizeOfL k + 56 + sizeOfL k + 1) : hverL (numB 2 4 ++ pubL id sd k) msg S = 3 := by
 have hpl := length_pubL h16 sd k
 have hPd : (numB 2 4 ++ pubL id sd k).drop 4 = pubL id sd k := List.drop_left' (length_numB _ _)
 have hPl : (numB 2 4 ++ pubL id sd k).length = 60 := by rw [List.length_append, length_numB, hpl]
 have hP2 : num4V (numB 2 4 ++ pubL id sd k) false = 2 := num4_small (q := 2) (by decide) _
 have hw := width_pubL h16 sd hk
 unfold hverL
 rw [hPd, hw, hP2, hPl, if_pos ⟨rfl, Or.inr rfl, by omega⟩]
 split
 · rw [if_neg (by decide)]
   split
   · rename_i h
     generalize hX : List.take 56 (List.drop (sizeOfL k) (List.drop 4 S)) = X at h ⊢
     have hr : (((S.drop 4).drop (sizeOfL k)).drop 56).length = sizeOfL k + 1 := by rw [List.length_drop, List.length_drop, List.length_drop]; omega
     have h1 := sizeL_mod k
     have h2 := sizeL_mod (widthL X)
     unfold verL verK
     rw [if_neg h.2.1, if_neg (by omega)]
   · rfl
 · rfl
theorem hver_long (l : Int) (N : Nat) (hl : l = 1 ∧ N < 32 ∨ l = 2 ∧ N < 1024) {id : List Int} (h16 : id.length = 16) (sd : List Int) {k : Nat} (hk : k = 1 ∨ k = 2 ∨ k = 4 ∨ k = 8) (msg S : List Int) (hS : S.length = (sgnL id sd k l N msg).length + 1) : hverL (numB l 4 ++ pubL id sd k) msg S = 3 := by
 rcases hl with ⟨rfl, hN⟩ | ⟨rfl, hN⟩
 · have hL : (sgnL id sd k 1 N msg).length = 4 + sizeOfL k := by show (numB 0 4 ++ lsigOf id sd k N msg).length = _; rw [List.length_append, length_numB, length_lsigOf]
   exact hver_len1 h16 sd hk msg S (by omega)
 · have hL : (sgnL id sd k 2 N msg).length = 4 + sizeOfL k + 56 + sizeOfL k := length_sgL2 id sd k (N / 32) (N % 32) msg
   exact hver_long2 h16 sd hk msg S (by omega)
end Go.Proofs.YtfihlmnbonnekaaGreat
