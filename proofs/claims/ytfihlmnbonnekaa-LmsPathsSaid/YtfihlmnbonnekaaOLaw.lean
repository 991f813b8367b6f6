/- ots: what a signature leads to. No program in sight. -/
import Derived.Test.YtfihlmnbonnekaaPrg10
namespace Go.Proofs.Ytfihlmnbonnekaa
open Go.RowKit

theorem flatX_congr {X Y : Nat → List Int} : ∀ {i : Nat}, (∀ n, n < i → X n = Y n) → flatX X i = flatX Y i
  | 0, _ => rfl
  | i + 1, h => by rw [flatX_succ, flatX_succ, flatX_congr (fun n hn => h n (by omega)), h i (by omega)]
theorem flatX_piece {X : Nat → List Int} (hl : ∀ i, (X i).length = 32) {n : Nat} : ∀ {i : Nat}, n < i → ((flatX X i).drop (32 * n)).take 32 = X n
  | 0, h => by omega
  | i + 1, h => by
    rw [flatX_succ]
    have hfl := length_flatX hl i
    by_cases e : n = i
    · subst e
      rw [List.drop_append, hfl, Nat.sub_self, List.drop_of_length_le (by omega), List.nil_append, List.drop_zero, List.take_of_length_le (by rw [hl]; omega)]
    · rw [List.drop_append_of_le_length (by omega), List.take_append_of_le_length (by rw [List.length_drop]; omega)]
      exact flatX_piece hl (by omega)

theorem length_sigOf (id seed : List Int) (q k : Nat) (msg : List Int) : (sigOf id seed q k msg).length = 36 + 32 * chN k := by
  unfold sigOf
  rw [List.length_append, List.length_append, length_numB, length_flatX (fun i => length_chainOf ..)]
  rfl
theorem isBytes_sigOf (id seed : List Int) (q k : Nat) (msg : List Int) : IsBytes (sigOf id seed q k msg) :=
  isBytes_app (isBytes_app (isBytes_numB _ _) (isBytes_sha _)) (isBytes_flatX (fun i => isBytes_chainOf _ _ _ _ i) _)
theorem take4_sigOf (id seed : List Int) (q k : Nat) (msg : List Int) : (sigOf id seed q k msg).take 4 = numB (cdN k) 4 := by
  unfold sigOf
  rw [List.append_assoc, List.take_left' (length_numB _ _)]
theorem drop4_sigOf (id seed : List Int) (q k : Nat) (msg : List Int) : ((sigOf id seed q k msg).drop 4).take 32 = randOf id seed q := by
  unfold sigOf
  rw [List.append_assoc, List.drop_left' (length_numB _ _), List.take_left' (show (randOf id seed q).length = 32 from rfl)]
theorem take36_sigOf (id seed : List Int) (q k : Nat) (msg : List Int) : (sigOf id seed q k msg).take 36 = numB (cdN k) 4 ++ randOf id seed q := by
  unfold sigOf
  rw [List.take_left' (by rw [List.length_append, length_numB]; rfl)]
theorem piece_sigOf (id seed : List Int) (q k : Nat) (msg : List Int) {n : Nat} (hn : n < chN k) : pieceOf (sigOf id seed q k msg) n = chainOf id seed q (dgN (msgOf id q (randOf id seed q) msg) k) n := by
  rw [pieceOf_eq (by rw [length_sigOf]; omega), ← List.drop_drop]
  unfold sigOf
  rw [List.drop_left' (by rw [List.length_append, length_numB]; rfl)]
  exact flatX_piece (fun i => length_chainOf ..) hn

theorem candOk_sig (id seed : List Int) (q k : Nat) (msg : List Int) : candOk k (sigOf id seed q k msg) = true := by
  unfold candOk
  rw [decide_eq_true (length_sigOf ..), decide_eq_true (take4_sigOf ..)]
  rfl
/-- what was signed leads to the public key -/
theorem cand_sig (id seed : List Int) (q k : Nat) (msg : List Int) : candOf id q k msg (sigOf id seed q k msg) = pubOf id seed q k := by
  unfold candOf
  rw [candOk_sig, if_pos rfl]
  unfold candK pubOf
  rw [drop4_sigOf]
  congr 1
  refine flatX_congr fun n hn => ?_
  unfold candX
  rw [piece_sigOf _ _ _ _ _ hn]
  have h := (dgN_eq (h := msgOf id q (randOf id seed q) msg) hn).2
  unfold chainOf
  generalize dgN (msgOf id q (randOf id seed q) msg) k n = d at h ⊢
  have e := stepsC_add (pre := pre22 id q n) (f := 0) (x := secretOf id seed q n) (m := d) (2 ^ k - 1 - d)
  rw [Nat.zero_add] at e
  rw [e, show d + (2 ^ k - 1 - d) = 2 ^ k - 1 by omega]
theorem candE_sig (id seed : List Int) (q k : Nat) (msg : List Int) : candE k (sigOf id seed q k msg) = 0 := by
  unfold candE
  rw [candOk_sig, if_pos rfl]

theorem cand_any (w : World) (id : List Int) (h16 : id.length = 16) (q k : Nat) (hq : q < 32) (hk : k = 1 ∨ k = 2 ∨ k = 4 ∨ k = 8) (mv sv : Value) (msg sig : List Int) (hm : Old w mv msg) (hmb : IsBytes msg) (hml : msg.length ≤ 90000) (hs : Old w sv sig) (hsb : IsBytes sig) (hsl : sig.length ≤ 1000000) :
    Calls Try.prog 54 #[.agg (u8s id).toArray, .int .i64 q, .int .i64 k, mv, sv] w fun e w' => e = .returned (.tuple #[.agg (u8s (candOf id q k msg sig)).toArray, .int .i64 (candE k sig)]) ∧ Own w w' [] := by
  by_cases h : sig.length = 36 + 32 * chN k
  · exact cand_main w id h16 q k hq hk mv sv msg sig hm hmb hml hs hsb h
  · have e : candOk k sig = false := by unfold candOk; rw [decide_eq_false h]; rfl
    have e1 : candOf id q k msg sig = List.replicate 32 0 := by unfold candOf; rw [e]; rfl
    have e2 : candE k sig = 3 := by unfold candE; rw [e]; rfl
    rw [e1, e2]
    exact cand_len w id q k hq hk mv sv sig hs hsl h

theorem length_candOf (id : List Int) (q k : Nat) (msg sig : List Int) : (candOf id q k msg sig).length = 32 := by
  unfold candOf
  split
  · rfl
  · simp
theorem length_pubOf (id seed : List Int) (q k : Nat) : (pubOf id seed q k).length = 32 := rfl

end Go.Proofs.Ytfihlmnbonnekaa
