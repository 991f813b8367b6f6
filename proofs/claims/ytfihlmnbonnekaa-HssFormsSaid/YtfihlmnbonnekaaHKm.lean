/- hss: a key's life, two levels: signed with first, and again. -/
import Derived.Test.YtfihlmnbonnekaaHSelf
namespace Go.Proofs.Ytfihlmnbonnekaa
open Go.RowKit

set_option linter.unusedVariables false
/-- the rows of a key that has signed under leaf q -/
def KeyMade (id sd : List Int) (k q kb tb : Nat) (L0 : List Ent) : Prop := ∃ (ss : List Int) (lt : Nat) (pv sv : Value) (M : List Ent), ss = id ++ sd ∧ LowM (pubL (cidOf id sd q) (csdOf id sd q) k) (lsigOf id sd k q (pubL (cidOf id sd q) (csdOf id sd q) k)) pv sv M ∧ L0 = (kb, keyR ss k 2 (.pointer (some ⟨tb, 0, none⟩)) q (.int .u32 1) (.int .i32 0) (.pointer (some ⟨lt, 0, none⟩)) pv sv, 114) :: (tb, fullT id sd k, 104) :: (M ++ [(lt, fullT (cidOf id sd q) (csdOf id sd q) k, 104)])
theorem bufR_slice {B n : Nat} {xs : List Int} {w : World} {v : Value} (h : BufR B xs w v) (hn : xs.length = n) : ∃ p c, v = .slice p n c := by
  obtain ⟨wb, _, h2⟩ := h
  obtain ⟨p, c, e⟩ := h2.slice
  exact ⟨p, c, by rw [e, hn]⟩
theorem km_first (kb tb : Nat) (q r N m : Nat) (hq : q < 32) (hr : r < 32) (hN : N = 32 * q + r) (id sd : List Int) (h16 : id.length = 16) (h32 : sd.length = 32) (k : Nat) (hk : k = 1 ∨ k = 2 ∨ k = 4 ∨ k = 8) (ss : List Int) (hss : ss = id ++ sd) (w : World) (cs : List Value) (hcs : IsTree id sd k cs) (H0 : Own w w [(kb, keyR ss k 2 (.pointer (some ⟨tb, 0, none⟩)) q (.int .u32 0) (.int .i32 0) (.pointer none) (.slice none 0 0) (.slice none 0 0), 114), (tb, cs, 104)])
    (pm : Option Addr) (n cm : Nat) (msg : List Int) (hO : Old w (.slice pm n cm) msg) (hmb : IsBytes msg) (hml : msg.length ≤ 90000) (hne : ∀ j, blk (.slice pm n cm) = some j → j ≠ kb ∧ j ≠ tb) (hm : m = 4 + sizeOfL k + 56 + sizeOfL k) :
    Calls Try.prog 35 #[.pointer (some ⟨kb, 0, none⟩), .int .i64 N, (.slice pm n cm)] w fun e w' => ∃ p c, e = .returned (.tuple #[.slice p m c, .int .i64 0]) ∧ BufR w.heap.size (sgL2 id sd k q r msg) w' (.slice p m c) ∧ ∃ L0, KeyMade id sd k q kb tb L0 ∧ (∀ j ∈ L0.map (·.1), j ∈ ([(kb, keyR ss k 2 (.pointer (some ⟨tb, 0, none⟩)) q (.int .u32 0) (.int .i32 0) (.pointer none) (.slice none 0 0) (.slice none 0 0), 114), (tb, cs, 104)] : List Ent).map (·.1) ∨ w.heap.size ≤ j) ∧ (∀ j ∈ ([(kb, keyR ss k 2 (.pointer (some ⟨tb, 0, none⟩)) q (.int .u32 0) (.int .i32 0) (.pointer none) (.slice none 0 0) (.slice none 0 0), 114), (tb, cs, 104)] : List Ent).map (·.1), j ∈ L0.map (·.1)) ∧ Own w w' L0 := by
  have h48 : ss.length = 48 := by rw [hss, List.length_append, h16, h32]
  refine (hsign_two (fun _ _ _ _ => True) w kb tb q r N hq hr hN 2 id sd h16 h32 k hk ss hss [(kb, keyR ss k 2 (.pointer (some ⟨tb, 0, none⟩)) q (.int .u32 0) (.int .i32 0) (.pointer none) (.slice none 0 0) (.slice none 0 0), 114), (tb, cs, 104)] _ (.head _) (keyR_k h48).2.1 H0 pm n cm msg hO hmb hml (fun j hj hm => ?_) (fun w1 X h hX => low_new kb tb q hq 2 id sd h16 h32 k hk ss hss cs hcs w w1 X h hX)).mono ?_
  · simp only [List.map_cons, List.map_nil, List.mem_cons, List.not_mem_nil, or_false] at hm
    have := hne j hj
    omega
  · rintro e w' ⟨v, rfl, h1, lt, pv, sv, M, _, h2, h3, h4, h5⟩
    obtain ⟨p, c, rfl⟩ := bufR_slice h1 ((length_sgL2 id sd k q r msg).trans hm.symm)
    exact ⟨p, c, rfl, h1, _, ⟨ss, lt, pv, sv, M, hss, h2, rfl⟩, h3, h4, h5⟩
theorem km_again (kb tb : Nat) (q r N m : Nat) (hq : q < 32) (hr : r < 32) (hN : N = 32 * q + r) (id sd : List Int) (h16 : id.length = 16) (h32 : sd.length = 32) (k : Nat) (hk : k = 1 ∨ k = 2 ∨ k = 4 ∨ k = 8) (w : World) (L0 : List Ent) (hL : KeyMade id sd k q kb tb L0) (H0 : Own w w L0)
    (pm : Option Addr) (n cm : Nat) (msg : List Int) (hO : Old w (.slice pm n cm) msg) (hmb : IsBytes msg) (hml : msg.length ≤ 90000) (hne : ∀ j, blk (.slice pm n cm) = some j → j ∉ L0.map (·.1)) (hm : m = 4 + sizeOfL k + 56 + sizeOfL k) :
    Calls Try.prog 35 #[.pointer (some ⟨kb, 0, none⟩), .int .i64 N, (.slice pm n cm)] w fun e w' => ∃ p c, e = .returned (.tuple #[.slice p m c, .int .i64 0]) ∧ BufR w.heap.size (sgL2 id sd k q r msg) w' (.slice p m c) ∧ Own w w' [] := by
  obtain ⟨ss, lt, pv, sv, M, hss, hM, rfl⟩ := hL
  have h48 : ss.length = 48 := by rw [hss, List.length_append, h16, h32]
  refine (hsign_two (fun a b c d => a = lt ∧ b = pv ∧ c = sv ∧ d = M) w kb tb q r N hq hr hN 2 id sd h16 h32 k hk ss hss ((kb, keyR ss k 2 (.pointer (some ⟨tb, 0, none⟩)) q (.int .u32 1) (.int .i32 0) (.pointer (some ⟨lt, 0, none⟩)) pv sv, 114) :: (tb, fullT id sd k, 104) :: (M ++ [(lt, fullT (cidOf id sd q) (csdOf id sd q) k, 104)])) _ (.head _) (keyR_k h48).2.1 H0 pm n cm msg hO hmb hml hne (fun w1 X h hX => low_old kb tb lt pv sv M q hq 2 id sd h16 h32 k hk ss hss hM w w1 X h hX)).mono ?_
  rintro e w' ⟨v, rfl, h1, lt', pv', sv', M', ⟨rfl, rfl, rfl, rfl⟩, h2, h3, h4, h5⟩
  obtain ⟨p, c, rfl⟩ := bufR_slice h1 ((length_sgL2 id sd k q r msg).trans hm.symm)
  exact ⟨p, c, rfl, h1, h5.sameL H0⟩
theorem km_pub (kb tb : Nat) (q : Nat) (id sd : List Int) (h16 : id.length = 16) (h32 : sd.length = 32) (k : Nat) (hk : k = 1 ∨ k = 2 ∨ k = 4 ∨ k = 8) (w : World) (L0 : List Ent) (hL : KeyMade id sd k q kb tb L0) (H0 : Own w w L0) :
    Calls Try.prog 36 #[.pointer (some ⟨kb, 0, none⟩)] w fun e w' => ∃ p c, e = .returned (.slice p 60 c) ∧ BufR w.heap.size (numB 2 4 ++ pubL id sd k) w' (.slice p 60 c) ∧ Own w w' [] := by
  obtain ⟨ss, lt, pv, sv, M, hss, hM, rfl⟩ := hL
  have h48 : ss.length = 48 := by rw [hss, List.length_append, h16, h32]
  refine (hpub_2 w kb tb id sd h16 h32 k hk _ _ (.head _) (keyR_k h48).2.1 (keyR_k h48).2.2 (.tail _ (.head _)) H0).mono ?_
  rintro e w' ⟨v, rfl, h1, h2⟩
  obtain ⟨p, c, rfl⟩ := bufR_slice h1 (n := 60) (by rw [List.length_append, length_numB, length_pubL h16])
  exact ⟨p, c, rfl, h1, h2⟩

end Go.Proofs.Ytfihlmnbonnekaa
