/- what the laws over trees share. -/
import Derived.Test.YtfihlmnbonnekaaLTold
import Derived.Test.YtfihlmnbonnekaaCat
namespace Go.Proofs.Ytfihlmnbonnekaa
open Go.RowKit

section
variable {P : Program} {ops : Array Oper} {rest : List Oper} {o : Oper} {a : Act} {w : World} {Q : Exit → Act → World → Prop}
theorem st_valG (hw : Region.wanted o (yielded ops a.tmps) = true) {v : Value} (hrun : (execOp a.eval o).run P w = .ok (.value v) w) (h : wpList P ops Q rest (a.put o.dst v) w) : wpList P ops Q (o :: rest) a w :=
  BigFrame.wpList_want hw fun K hK => by unfold Oper.wp; rw [hrun, Oper.upon_value]; exact hK _ _ h
end
theorem split48 {xs : List Int} (h : xs.length = 48) : ∃ id seed : List Int, xs = id ++ seed ∧ id.length = 16 ∧ seed.length = 32 := ⟨xs.take 16, xs.drop 16, (List.take_append_drop 16 xs).symm, by rw [List.length_take]; omega, by rw [List.length_drop]; omega⟩
theorem isBytes_left {a b : List Int} (h : IsBytes (a ++ b)) : IsBytes a := isBytes_mem.2 fun x hx => isBytes_mem.1 h x (List.mem_append_left _ hx)
theorem Old.at1 {w : World} {p : Option Addr} {n c : Nat} {xs : List Int} (h : Old w (.slice p n c) xs) (h0 : 0 < xs.length) : ∃ g o, p = some ⟨g, o, none⟩ ∧ n = xs.length ∧ xs.length ≤ c := by
  obtain ⟨g, o, c2, e, hc⟩ := h.at0 h0
  cases e
  exact ⟨g, o, rfl, rfl, hc⟩
/-- contracts over a tree that is made -/
theorem nodeF_any (w : World) (b : Nat) (id seed : List Int) (h16 : id.length = 16) (h32 : seed.length = 32) (k : Nat) (hk : k = 1 ∨ k = 2 ∨ k = 4 ∨ k = 8) (hT : TreeAt w b id seed k) (r : Nat) (h0 : 0 < r) (h64 : r < 64) :
    Calls Try.prog 29 #[.pointer (some ⟨b, 0, none⟩), .int .i64 r] w fun e w' => e = .returned (.tuple #[.agg (u8s (nodeOf id seed k r)).toArray, .int .i64 0]) ∧ Own w w' [] :=
  (lnode_any w b id seed h16 h32 k hk _ (Or.inr rfl) hT.own r h0 h64).mono fun _ _ ⟨h1, h2⟩ => ⟨h1, h2.same hT⟩
theorem pubF_any (w : World) (b : Nat) (id seed : List Int) (h16 : id.length = 16) (h32 : seed.length = 32) (k : Nat) (hk : k = 1 ∨ k = 2 ∨ k = 4 ∨ k = 8) (hT : TreeAt w b id seed k) :
    Calls Try.prog 30 #[.pointer (some ⟨b, 0, none⟩)] w fun e w' => ∃ g o c, e = .returned (.slice (some ⟨g, o, none⟩) 56 c) ∧ 56 ≤ c ∧ Old w' (.slice (some ⟨g, o, none⟩) 56 c) (pubL id seed k) ∧ Own w w' [] :=
  (lpub_any w b id seed h16 h32 k hk _ (Or.inr rfl) hT.own).mono fun _ _ ⟨p, c, h1, h2, _, h3⟩ => by
    have hl := length_pubL h16 seed k
    obtain ⟨g, o, rfl, _, hc⟩ := h2.at1 (by omega)
    exact ⟨g, o, c, h1, by omega, h2, h3.same hT⟩
/-- the first signature of a tree -/
theorem signN_any (w : World) (b : Nat) (id seed : List Int) (h16 : id.length = 16) (h32 : seed.length = 32) (k : Nat) (hk : k = 1 ∨ k = 2 ∨ k = 4 ∨ k = 8) (cs : List Value) (hcs : IsTree id seed k cs) (q : Nat) (hq : q < 32) (mv : Value) (msg : List Int) (hm : Old w mv msg) (hmb : IsBytes msg) (hml : msg.length ≤ 90000)
    (H0 : Own w w [(b, cs, 104)]) (hmne : ∀ k, blk mv = some k → k ≠ b) {n : Nat} (hn : n = sizeOfL k) :
    Calls Try.prog 28 #[.pointer (some ⟨b, 0, none⟩), .int .i64 q, mv] w fun e w' => ∃ g o c, e = .returned (.tuple #[.slice (some ⟨g, o, none⟩) n c, .int .i64 0]) ∧ n ≤ c ∧ Old w' (.slice (some ⟨g, o, none⟩) n c) (lsigOf id seed k q msg) ∧ w.heap.size ≤ g ∧ Own w w' [(b, fullT id seed k, 104)] :=
  (lsign_any w b id seed h16 h32 k hk cs hcs q hq mv msg hm hmb hml H0 hmne hn).mono fun _ _ ⟨p, c, h1, h2, h4, h3⟩ => by
    have hl := length_lsigOf id seed k q msg
    have hs : sizeOfL k = 204 + 32 * chN k := rfl
    obtain ⟨g, o, rfl, _, hc⟩ := h2.at1 (by omega)
    have hc0 : c ≠ 0 := by omega
    exact ⟨g, o, c, h1, by omega, h2, h4 g (by show (if c = 0 then none else some g) = some g; rw [if_neg hc0]), h3⟩

end Go.Proofs.Ytfihlmnbonnekaa
