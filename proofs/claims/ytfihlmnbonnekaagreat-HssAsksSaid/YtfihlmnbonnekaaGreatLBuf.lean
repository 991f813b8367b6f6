/- buffers of a call's own side by side: a store into one, an append to one; Public and Sign by their first address. -/
import Derived.Test.YtfihlmnbonnekaaGreatMf
namespace Go.Proofs.YtfihlmnbonnekaaGreat
open Go.RowKit
set_option maxHeartbeats 32000000
section
variable {P : Program} {ops : Array Oper} {rest : List Oper} {o : Oper} {a : Act} {w w1 : World} {Q : Exit → Act → World → Prop} {e : TypeId} {k : IntKind}
theorem st_storeB (hg : o.guard = none) {g n c : Nat} {xs : List Int} (E : Buf e k w w1 [] (.slice (some ⟨g, 0, none⟩) n c) xs) {ty : TypeId} {x y : Operand} (ho : o.op = .store ty x y) {i : Nat} (hx : a.eval x = .pointer (some ⟨g, i, none⟩)) {z : Int} (hy : a.eval y = .int k z)
 (hs : (P.info? ty).map (·.size) = some 1) (hi : i < xs.length)
 (h : ∀ w2 cs', Own w1 w2 [(g, cs', e)] → Buf e k w w2 [] (.slice (some ⟨g, 0, none⟩) n c) (xs.set i z) → wpList P ops Q rest (a.put o.dst undef) w2) : wpList P ops Q (o :: rest) a w1 := by
 obtain ⟨Lv, ⟨hlen, hcase⟩, H, hd⟩ := E
 rcases hcase with ⟨hv, _⟩ | ⟨g', cap, cs', hv, rfl, hn, hcap, hcl, htk⟩
 · cases hv
 · cases hv
   have H1 : Own w1 w1 [(g, cs', e)] := Own.one (H.here _ _ _ (.head _))
   obtain ⟨w', hr, H'⟩ := rn_store (L' := [(g, cs'.set i (.int k z), e)]) H1 ho hx hy hs .head (by rw [hcl]; omega) rfl
   have H2 := Own.next (L := [_]) (M := []) H H' rfl
   refine wpList_plain hg fun K hK => ?_
   unfold Oper.wp
   rw [hr, Oper.upon_skip]
   refine hK _ _ (h w' _ H' ⟨[(g, cs'.set i (.int k z), e)], ⟨by simp, Or.inr ⟨g, c, _, by rw [List.length_set], rfl, by rw [List.length_set]; exact hn, hcap, by rw [List.length_set]; exact hcl, ?_⟩⟩, H2, hd⟩)
   rw [List.length_set, ints_set, ← htk, List.take_set]
end
theorem BufR.addr {B : Nat} {xs : List Int} {w : World} {p : Option Addr} {n c : Nat} (h : BufR B xs w (.slice p n c)) (h0 : 0 < xs.length) : ∃ g, p = some ⟨g, 0, none⟩ ∧ xs.length ≤ c ∧ B ≤ g ∧ g < w.heap.size := by
 obtain ⟨wb, hb, Lv, ⟨hlen, hcase⟩, H, hd⟩ := h
 rcases hcase with ⟨hv, h2, _⟩ | ⟨g', cap, cs', hv, rfl, hn, hcap, hcl, htk⟩
 · omega
 · cases hv
   exact ⟨g', rfl, hn, Nat.le_trans hb (hd g' (by simp)), H.lt (.head _)⟩
theorem lpubA_any (w : World) (b : Nat) (id seed : List Int) (h16 : id.length = 16) (h32 : seed.length = 32) (k : Nat) (hk : k = 1 ∨ k = 2 ∨ k = 4 ∨ k = 8) (hT : TreeAt w b id seed k) :
 Calls Tryz.prog 12 #[.pointer (some ⟨b, 0, none⟩)] w fun e w' => ∃ g c, e = .returned (.slice (some ⟨g, 0, none⟩) 56 c) ∧ 56 ≤ c ∧ w.heap.size ≤ g ∧ g < w'.heap.size ∧ BufR w.heap.size (pubL id seed k) w' (.slice (some ⟨g, 0, none⟩) 56 c) ∧ Own w w' [] :=
 (lpubB_any w b id seed h16 h32 k hk _ (Or.inr rfl) hT.own).mono fun _ _ ⟨p, c, h1, h2, h3⟩ => by
   have hl := length_pubL h16 seed k
   obtain ⟨g, rfl, h4, h5, h6⟩ := h2.addr (by omega)
   exact ⟨g, c, h1, by omega, h5, h6, h2, h3.same hT⟩
def BufS (B : Nat) (xs : List Int) (w : World) (v : Value) : Prop := ∃ g c cs, v = .slice (some ⟨g, 0, none⟩) xs.length c ∧ xs.length ≤ c ∧ c ≤ maxLen ∧ cs.length = c ∧ cs.take xs.length = u8s xs ∧ B ≤ g ∧ w.heap[g]? = some (.cells (List.toArray cs) 5 (0, 0))
theorem BufR.toS {B : Nat} {xs : List Int} {w : World} {v : Value} (h : BufR B xs w v) (h0 : 0 < xs.length) : BufS B xs w v := by
 obtain ⟨wb, hb, Lv, ⟨hlen, hcase⟩, H, hd⟩ := h
 rcases hcase with ⟨hv, h2, _⟩ | ⟨g', cap, cs', hv, rfl, hn, hcap, hcl, htk⟩
 · omega
 · exact ⟨g', cap, cs', hv, hn, hcap, by omega, by rw [Nat.mul_one] at htk; exact htk, Nat.le_trans hb (hd g' (by simp)), H.here _ _ _ (.head _)⟩
theorem BufS.mv {B : Nat} {xs : List Int} {w w' : World} {v : Value} {L : List Ent} (h : BufS B xs w v) (ho : Own w w' L) (hn : ∀ k ∈ L.map (·.1), k < B ∨ w.heap.size ≤ k) : BufS B xs w' v := by
 obtain ⟨g, c, cs, h1, h2, h3, h4, h5, h6, h7⟩ := h
 have hg : g < w.heap.size := (Array.getElem?_eq_some_iff.1 h7).1
 exact ⟨g, c, cs, h1, h2, h3, h4, h5, h6, by rw [ho.keep g hg (fun hm => by have := hn g hm; omega)]; exact h7⟩
theorem BufS.le {B B' : Nat} {xs : List Int} {w : World} {v : Value} (h : BufS B' xs w v) (hB : B ≤ B') : BufS B xs w v := by
 obtain ⟨g, c, cs, h1, h2, h3, h4, h5, h6, h7⟩ := h
 exact ⟨g, c, cs, h1, h2, h3, h4, h5, Nat.le_trans hB h6, h7⟩
theorem BufS.old {B : Nat} {xs : List Int} {w : World} {v : Value} (h : BufS B xs w v) : Old w v xs := by
 obtain ⟨g, c, cs, h1, h2, h3, h4, h5, h6, h7⟩ := h
 subst h1
 have H := Own.one h7
 refine ⟨Or.inr ⟨g, 0, c, rfl, ⟨h2, fun e => ?_⟩, fun i x hx => ?_⟩, fun k hk => by obtain rfl := (blk_some hk).1; exact H.lt (.head _)⟩
 · rw [List.eq_nil_of_length_eq_zero e]; rfl
 · rw [Nat.zero_add, H.cell (.head _)]
   rw [← h5, List.getElem?_take] at hx
   split at hx
   · exact hx
   · cases hx
end Go.Proofs.YtfihlmnbonnekaaGreat
