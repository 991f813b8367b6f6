/- buffers of a call's own side by side: a store into one, an append to one; Public and Sign by their first address. -/
import Derived.Test.YtfihlmnbonnekaaGreatLLaw
namespace Go.Proofs.YtfihlmnbonnekaaGreat
open Go.RowKit

section
variable {P : Program} {ops : Array Oper} {rest : List Oper} {o : Oper} {a : Act} {w w1 : World} {Q : Exit → Act → World → Prop} {e : TypeId} {k : IntKind}
end
theorem BufR.mv {B : Nat} {xs : List Int} {w w' : World} {v : Value} (h : BufR B xs w v) (ho : Own w w' []) : BufR B xs w' v := BufR.mono B xs w w' v ho h
theorem BufR.addr {B : Nat} {xs : List Int} {w : World} {p : Option Addr} {n c : Nat} (h : BufR B xs w (.slice p n c)) (h0 : 0 < xs.length) : ∃ g, p = some ⟨g, 0, none⟩ ∧ xs.length ≤ c ∧ B ≤ g ∧ g < w.heap.size := by
  obtain ⟨wb, hb, Lv, ⟨hlen, hcase⟩, H, hd⟩ := h
  rcases hcase with ⟨hv, h2, _⟩ | ⟨g', cap, cs', hv, rfl, hn, hcap, hcl, htk⟩
  · omega
  · cases hv
    exact ⟨g', rfl, hn, Nat.le_trans hb (hd g' (by simp)), H.lt (.head _)⟩
/-- a buffer that nobody else has: what is known of its own block alone -/
def BufS (B : Nat) (xs : List Int) (w : World) (v : Value) : Prop := ∃ g c cs, v = .slice (some ⟨g, 0, none⟩) xs.length c ∧ xs.length ≤ c ∧ c ≤ maxLen ∧ cs.length = c ∧ cs.take xs.length = u8s xs ∧ B ≤ g ∧ w.heap[g]? = some (.cells (List.toArray cs) 5 (0, 0))
theorem BufS.mv {B : Nat} {xs : List Int} {w w' : World} {v : Value} {L : List Ent} (h : BufS B xs w v) (ho : Own w w' L) (hn : ∀ k ∈ L.map (·.1), k < B ∨ w.heap.size ≤ k) : BufS B xs w' v := by
  obtain ⟨g, c, cs, h1, h2, h3, h4, h5, h6, h7⟩ := h
  have hg : g < w.heap.size := (Array.getElem?_eq_some_iff.1 h7).1
  exact ⟨g, c, cs, h1, h2, h3, h4, h5, h6, by rw [ho.keep g hg (fun hm => by have := hn g hm; omega)]; exact h7⟩
theorem BufS.old {B : Nat} {xs : List Int} {w : World} {v : Value} (h : BufS B xs w v) : Old w v xs := by
  obtain ⟨g, c, cs, h1, h2, h3, h4, h5, h6, h7⟩ := h
  subst h1
  have H := Own.one h7
  refine ⟨Or.inr ⟨g, 0, c, rfl, ⟨h2, fun e => ?_⟩, fun i x hx => ?_⟩, fun k hk => by obtain rfl := (blk_some hk).1; exact H.lt (.head _)⟩
  · rw [List.eq_nil_of_length_eq_zero e]; rfl
  · rw [Nat.zero_add, H.cell (.head _)]
    rw [← h5, List.getElem?_take] at hx
    split at hx
    · exact hx
    · cases hx

end Go.Proofs.YtfihlmnbonnekaaGreat
