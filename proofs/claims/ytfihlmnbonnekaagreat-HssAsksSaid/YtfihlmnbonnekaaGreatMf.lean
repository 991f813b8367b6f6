/- chirographlaw4.told. And what stands on it. No condition. -/
import Derived.Test.YtfihlmnbonnekaaGreatLVer
import Derived.Test.YtfihlmnbonnekaaGreatCat

/-! chirographlaw4.told. -/
namespace Go.Proofs.YtfihlmnbonnekaaGreat
open Go.RowKit
set_option maxHeartbeats 32000000
theorem old_nil (w : World) : Old w (.slice none 0 0) [] := ⟨Or.inl ⟨⟨none, rfl⟩, rfl, rfl⟩, fun k hk => by cases hk⟩
theorem isBytes_nil' : IsBytes [] := fun i hi => by simp at hi
theorem wid_nil : widthL [] = 0 := by decide
theorem numB_small : ∀ q : Nat, q < 32 → numB (q : Int) 4 = [0, 0, 0, (q : Int)] := by decide
theorem beN_app {xs : List Int} {a b c d : Int} : beN ([a, b, c, d] ++ xs) 4 = ((a * 256 + b) * 256 + c) * 256 + d := by simp [beN]
theorem beN_small (q : Nat) (hq : q < 32) (xs : List Int) : beN (numB q 4 ++ xs) 4 = q := by
 rw [numB_small q hq, beN_app]
 omega
theorem cdN_nat {k : Nat} (hk : k = 1 ∨ k = 2 ∨ k = 4 ∨ k = 8) : ∃ c : Nat, c < 32 ∧ cdN k = (c : Int) := by
 rcases hk with rfl | rfl | rfl | rfl
 · exact ⟨1, by omega, rfl⟩
 · exact ⟨2, by omega, rfl⟩
 · exact ⟨3, by omega, rfl⟩
 · exact ⟨4, by omega, rfl⟩
theorem pubL_eq (id seed : List Int) (k : Nat) : pubL id seed k = numB ((5 : Nat) : Int) 4 ++ (numB (cdN k) 4 ++ (id ++ nodeOf id seed k 1)) := by unfold pubL; simp
theorem width_pubL {id : List Int} (h16 : id.length = 16) (seed : List Int) {k : Nat} (hk : k = 1 ∨ k = 2 ∨ k = 4 ∨ k = 8) : widthL (pubL id seed k) = k := by
 have hl := length_pubL h16 seed k
 have h1 : num4V (pubL id seed k) false = 5 := by
  unfold num4V
  rw [if_neg (by simp; omega), pubL_eq, beN_small 5 (by omega)]; rfl
 have h2 : num4X (pubL id seed k) false = numB (cdN k) 4 ++ (id ++ nodeOf id seed k 1) := by
  unfold num4X
  rw [if_neg (by simp; omega), pubL_eq, List.drop_left' (length_numB _ _)]
 have h3 : num4W (pubL id seed k) false = false := by unfold num4W; rw [if_neg (by simp; omega)]
 obtain ⟨c, hc, e⟩ := cdN_nat hk
 have h4 : num4V (numB (cdN k) 4 ++ (id ++ nodeOf id seed k 1)) false = cdN k := by
  unfold num4V
  rw [if_neg (by simp [length_numB]), e, beN_small c hc]
 unfold widthL
 rw [hl, h1, h2, h3, h4]
 rcases hk with rfl | rfl | rfl | rfl <;> rfl
theorem vId_pubL {id : List Int} (h16 : id.length = 16) (seed : List Int) (k : Nat) : vId (pubL id seed k) = id := by
 unfold vId
 rw [pubL_eq, ← List.append_assoc, List.drop_left' (by rw [List.length_append, length_numB, length_numB]), List.take_left' h16]
theorem root_pubL {id : List Int} (h16 : id.length = 16) (seed : List Int) (k : Nat) : (pubL id seed k).drop 24 = nodeOf id seed k 1 := by
 unfold pubL
 rw [List.drop_left' (by rw [List.length_append, List.length_append, length_numB, length_numB, h16])]
theorem lsig_eq (id seed : List Int) (k q : Nat) (msg : List Int) : lsigOf id seed k q msg = numB q 4 ++ (sigOf id seed q k msg ++ (numB ((5 : Nat) : Int) 4 ++ flatX (pathOf id seed k q) 5)) := by unfold lsigOf; simp
theorem climb_path {id seed : List Int} {k q : Nat} (hq : q < 32) {x : List Int} {O : Nat → List Int} (hx : x = nodeOf id seed k (q + 32)) (hO : ∀ i, i < 5 → O i = pathOf id seed k q i) : ∀ i, i ≤ 5 → climbC id q x O i = nodeOf id seed k ((q + 32) / 2 ^ i)
 | 0, _ => by rw [Nat.pow_zero, Nat.div_one]; exact hx
 | i + 1, hi => by
   obtain ⟨g1, g2, g3⟩ := path_r hq (i := i) (by omega)
   have ih := climb_path hq hx hO i (by omega)
   unfold climbC
   rw [ih, hO i (by omega)]
   unfold pathOf
   have hn := nodeOf_inner id seed k (r := (q + 32) / 2 ^ i / 2) (by omega) (by omega)
   rw [← g3, hn]
   generalize (q + 32) / 2 ^ i = m at *
   by_cases h : m % 2 = 1
   · rw [if_pos h, show sibN m = 2 * (m / 2) by unfold sibN; rw [if_neg (by omega)]; omega, show 2 * (m / 2) + 1 = m by omega]
   · rw [if_neg h, show sibN m = 2 * (m / 2) + 1 by unfold sibN; rw [if_pos (by omega)]; omega, show 2 * (m / 2) = m by omega]
theorem ver_sig {id : List Int} (h16 : id.length = 16) (seed : List Int) {k : Nat} (hk : k = 1 ∨ k = 2 ∨ k = 4 ∨ k = 8) {q : Nat} (hq : q < 32) (msg : List Int) : verL (pubL id seed k) msg (lsigOf id seed k q msg) = 0 := by
 have hl := length_lsigOf id seed k q msg
 have hsl := length_sigOf id seed q k msg
 have hQ : beN (lsigOf id seed k q msg) 4 = (q : Int) := by rw [lsig_eq, beN_small q hq]
 have hd4 : (lsigOf id seed k q msg).drop 4 = sigOf id seed q k msg ++ (numB ((5 : Nat) : Int) 4 ++ flatX (pathOf id seed k q) 5) := by rw [lsig_eq, List.drop_left' (length_numB _ _)]
 have hd40 : (lsigOf id seed k q msg).drop (40 + 32 * chN k) = numB ((5 : Nat) : Int) 4 ++ flatX (pathOf id seed k q) 5 := by
  rw [show 40 + 32 * chN k = 4 + (36 + 32 * chN k) by omega, ← List.drop_drop, hd4, List.drop_left' hsl]
 have hd44 : (lsigOf id seed k q msg).drop (44 + 32 * chN k) = flatX (pathOf id seed k q) 5 := by
  rw [show 44 + 32 * chN k = 40 + 32 * chN k + 4 by omega, ← List.drop_drop, hd40, List.drop_left' (length_numB _ _)]
 have hp : vPart k (lsigOf id seed k q msg) = sigOf id seed q k msg := by unfold vPart; rw [hd4, List.take_left' hsl]
 have hok : vOk k (lsigOf id seed k q msg) = true := by
  unfold vOk
  rw [hQ, hd40, beN_small 5 (by omega), decide_eq_true (by omega), decide_eq_true (by rfl)]
  rfl
 have hroot : vRoot (pubL id seed k) msg (lsigOf id seed k q msg) k = (pubL id seed k).drop 24 := by
  rw [root_pubL h16]
  unfold vRoot
  have hvq : vQ (lsigOf id seed k q msg) = q := by unfold vQ; rw [hQ]; simp
  rw [hvq, vId_pubL h16, hp, cand_sig, climb_path hq (by rw [nodeOf_leaf id seed k (by omega), show q + 32 - 32 = q by omega]) (fun i hi => ?_) 5 (Nat.le_refl 5), path_end hq]
  have hfl := length_flatX (length_pathOf id seed k q) 5
  have hsz : sizeOfL k = 204 + 32 * chN k := rfl
  rw [pcA_eq (by omega), ← List.drop_drop, hd44, flatX_piece (length_pathOf id seed k q) hi]
 unfold verL
 rw [width_pubL h16 seed hk, if_neg (by omega)]
 unfold verK
 rw [if_pos hl, if_pos hok, hp, candE_sig, if_pos rfl, if_pos hroot]
end Go.Proofs.YtfihlmnbonnekaaGreat

/-! what the laws over trees share. -/
namespace Go.Proofs.YtfihlmnbonnekaaGreat
open Go.RowKit
set_option maxHeartbeats 32000000
section
variable {P : Program} {ops : Array Oper} {rest : List Oper} {o : Oper} {a : Act} {w : World} {Q : Exit → Act → World → Prop}
theorem st_valG (hw : Region.wanted o (yielded ops a.tmps) = true) {v : Value} (hrun : (execOp a.eval o).run P w = .ok (.value v) w) (h : wpList P ops Q rest (a.put o.dst v) w) : wpList P ops Q (o :: rest) a w :=
 BigFrame.wpList_want hw fun K hK => by unfold Oper.wp; rw [hrun, Oper.upon_value]; exact hK _ _ h
end
theorem split48 {xs : List Int} (h : xs.length = 48) : ∃ id seed : List Int, xs = id ++ seed ∧ id.length = 16 ∧ seed.length = 32 := ⟨xs.take 16, xs.drop 16, (List.take_append_drop 16 xs).symm, by rw [List.length_take]; omega, by rw [List.length_drop]; omega⟩
theorem isBytes_left {a b : List Int} (h : IsBytes (a ++ b)) : IsBytes a := isBytes_mem.2 fun x hx => isBytes_mem.1 h x (List.mem_append_left _ hx)
end Go.Proofs.YtfihlmnbonnekaaGreat
