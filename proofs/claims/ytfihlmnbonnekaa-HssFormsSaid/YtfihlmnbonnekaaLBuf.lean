/- buffers of a call's own side by side: a store into one, an append to one; Public and Sign by their first address. -/
import Derived.Test.YtfihlmnbonnekaaLLaw
namespace Go.Proofs.Ytfihlmnbonnekaa
open Go.RowKit

section
variable {P : Program} {ops : Array Oper} {rest : List Oper} {o : Oper} {a : Act} {w w1 : World} {Q : Exit → Act → World → Prop} {e : TypeId} {k : IntKind}
/-- a store into a buffer: nothing else is turned -/
theorem st_storeB (hg : o.guard = none) {g n c : Nat} {xs : List Int} (E : Buf e k w w1 [] (.slice (some ⟨g, 0, none⟩) n c) xs) {ty : TypeId} {x y : Operand} (ho : o.op = .store ty x y) {i : Nat} (hx : a.eval x = .pointer (some ⟨g, i, none⟩)) {z : Int} (hy : a.eval y = .int k z)
    (hs : (P.info? ty).map (·.size) = some 1) (hi : i < xs.length)
    (h : ∀ w2 cs', Own w1 w2 [(g, cs', e)] → Buf e k w w2 [] (.slice (some ⟨g, 0, none⟩) n c) (xs.set i z) → wpList P ops Q rest (a.put o.dst undef) w2) : wpList P ops Q (o :: rest) a w1 := by
  obtain ⟨Lv, ⟨hlen, hcase⟩, H, hd⟩ := E
  rcases hcase with ⟨hv, _⟩ | ⟨g', cap, cs', hv, rfl, hn, hcap, hcl, htk⟩
  · cases hv
  · cases hv
    have H1 : Own w1 w1 [(g, cs', e)] := Own.one (H.here _ _ _ (.head _))
    obtain ⟨w', hr, H'⟩ := rn_store (L' := [(g, cs'.set i (.int k z), e)]) H1 ho hx hy hs .head (by rw [hcl]; omega) rfl
    have H2 := Own.next (L := [_]) (M := []) H H' rfl
    refine wpList_plain hg fun K hK => ?_
    unfold Oper.wp
    rw [hr, Oper.upon_skip]
    refine hK _ _ (h w' _ H' ⟨[(g, cs'.set i (.int k z), e)], ⟨by simp, Or.inr ⟨g, c, _, by rw [List.length_set], rfl, by rw [List.length_set]; exact hn, hcap, by rw [List.length_set]; exact hcl, ?_⟩⟩, H2, hd⟩)
    rw [List.length_set, ints_set, ← htk, List.take_set]
/-- an append to a buffer: what it turns lies behind it -/
theorem st_appG (hg : o.guard = none) {v xv : Value} {xs ys : List Int} (E : Buf e k w w1 [] v xs) {by_ : Nat} (he : Elem P e 1 by_) {s x : Operand} {t : TypeId} (ho : o.op = .call { callee := .builtin .append, args := #[s, x], argTypes := #[t, t] })
    (ht : P.underlying t = some (.slice e)) (hs : a.eval s = v) (hx : a.eval x = xv) (hsrc : SlAt w1 xv ys.length (ints k ys)) (hbytes : (xs.length + ys.length) * by_ ≤ 140737488355328) (h63 : xs.length + ys.length ≤ 140737488355328) {m : Nat} (hm : xs.length + ys.length = m)
    (h : ∀ p c w2, Gr w.heap.size xs.length w1 w2 → Buf e k w w2 [] (.slice p m c) (xs ++ ys) → wpList P ops Q rest (a.put o.dst (.slice p m c)) w2) : wpList P ops Q (o :: rest) a w1 :=
  wpList_plain hg fun K hK => (append_both E he ho ht hs hx hsrc hbytes h63).wp fun v' w' ⟨h1, h2⟩ => by
    obtain ⟨p, c, rfl⟩ := h2.slice
    rw [List.length_append, hm] at h2 ⊢
    exact hK _ _ (h p c w' h1 h2)
end
theorem BufR.mv {B : Nat} {xs : List Int} {w w' : World} {v : Value} (h : BufR B xs w v) (ho : Own w w' []) : BufR B xs w' v := BufR.mono B xs w w' v ho h
theorem BufR.addr {B : Nat} {xs : List Int} {w : World} {p : Option Addr} {n c : Nat} (h : BufR B xs w (.slice p n c)) (h0 : 0 < xs.length) : ∃ g, p = some ⟨g, 0, none⟩ ∧ xs.length ≤ c ∧ B ≤ g ∧ g < w.heap.size := by
  obtain ⟨wb, hb, Lv, ⟨hlen, hcase⟩, H, hd⟩ := h
  rcases hcase with ⟨hv, h2, _⟩ | ⟨g', cap, cs', hv, rfl, hn, hcap, hcl, htk⟩
  · omega
  · cases hv
    exact ⟨g', rfl, hn, Nat.le_trans hb (hd g' (by simp)), H.lt (.head _)⟩
theorem lpubA_any (w : World) (b : Nat) (id seed : List Int) (h16 : id.length = 16) (h32 : seed.length = 32) (k : Nat) (hk : k = 1 ∨ k = 2 ∨ k = 4 ∨ k = 8) (hT : TreeAt w b id seed k) :
    Calls Try.prog 30 #[.pointer (some ⟨b, 0, none⟩)] w fun e w' => ∃ g c, e = .returned (.slice (some ⟨g, 0, none⟩) 56 c) ∧ 56 ≤ c ∧ w.heap.size ≤ g ∧ g < w'.heap.size ∧ BufR w.heap.size (pubL id seed k) w' (.slice (some ⟨g, 0, none⟩) 56 c) ∧ Own w w' [] :=
  (lpubB_any w b id seed h16 h32 k hk _ (Or.inr rfl) hT.own).mono fun _ _ ⟨p, c, h1, h2, h3⟩ => by
    have hl := length_pubL h16 seed k
    obtain ⟨g, rfl, h4, h5, h6⟩ := h2.addr (by omega)
    exact ⟨g, c, h1, by omega, h5, h6, h2, h3.same hT⟩
theorem signA_any (w : World) (b : Nat) (id seed : List Int) (h16 : id.length = 16) (h32 : seed.length = 32) (k : Nat) (hk : k = 1 ∨ k = 2 ∨ k = 4 ∨ k = 8) (cs : List Value) (hcs : IsTree id seed k cs) (q : Nat) (hq : q < 32) (mv : Value) (msg : List Int) (hm : Old w mv msg) (hmb : IsBytes msg) (hml : msg.length ≤ 90000)
    (H0 : Own w w [(b, cs, 104)]) (hmne : ∀ k, blk mv = some k → k ≠ b) {n : Nat} (hn : n = sizeOfL k) :
    Calls Try.prog 28 #[.pointer (some ⟨b, 0, none⟩), .int .i64 q, mv] w fun e w' => ∃ g c, e = .returned (.tuple #[.slice (some ⟨g, 0, none⟩) n c, .int .i64 0]) ∧ n ≤ c ∧ w.heap.size ≤ g ∧ g < w'.heap.size ∧ BufR w.heap.size (lsigOf id seed k q msg) w' (.slice (some ⟨g, 0, none⟩) n c) ∧ Own w w' [(b, fullT id seed k, 104)] :=
  (lsignB_any w b id seed h16 h32 k hk cs hcs q hq mv msg hm hmb hml H0 hmne hn).mono fun _ _ ⟨p, c, h1, h2, h3⟩ => by
    have hl := length_lsigOf id seed k q msg
    have hz : 0 < sizeOfL k := by unfold sizeOfL; omega
    obtain ⟨g, rfl, h4, h5, h6⟩ := h2.addr (by omega)
    exact ⟨g, c, h1, by omega, h5, h6, h2, h3⟩

/-- a buffer that nobody else has: what is known of its own block alone -/
def BufS (B : Nat) (xs : List Int) (w : World) (v : Value) : Prop := ∃ g c cs, v = .slice (some ⟨g, 0, none⟩) xs.length c ∧ xs.length ≤ c ∧ c ≤ maxLen ∧ cs.length = c ∧ cs.take xs.length = u8s xs ∧ B ≤ g ∧ w.heap[g]? = some (.cells (List.toArray cs) 5 (0, 0))
theorem BufR.toS {B : Nat} {xs : List Int} {w : World} {v : Value} (h : BufR B xs w v) (h0 : 0 < xs.length) : BufS B xs w v := by
  obtain ⟨wb, hb, Lv, ⟨hlen, hcase⟩, H, hd⟩ := h
  rcases hcase with ⟨hv, h2, _⟩ | ⟨g', cap, cs', hv, rfl, hn, hcap, hcl, htk⟩
  · omega
  · exact ⟨g', cap, cs', hv, hn, hcap, by omega, by rw [Nat.mul_one] at htk; exact htk, Nat.le_trans hb (hd g' (by simp)), H.here _ _ _ (.head _)⟩
theorem BufS.mv {B : Nat} {xs : List Int} {w w' : World} {v : Value} {L : List Ent} (h : BufS B xs w v) (ho : Own w w' L) (hn : ∀ k ∈ L.map (·.1), k < B ∨ w.heap.size ≤ k) : BufS B xs w' v := by
  obtain ⟨g, c, cs, h1, h2, h3, h4, h5, h6, h7⟩ := h
  have hg : g < w.heap.size := (Array.getElem?_eq_some_iff.1 h7).1
  exact ⟨g, c, cs, h1, h2, h3, h4, h5, h6, by rw [ho.keep g hg (fun hm => by have := hn g hm; omega)]; exact h7⟩
theorem BufS.le {B B' : Nat} {xs : List Int} {w : World} {v : Value} (h : BufS B' xs w v) (hB : B ≤ B') : BufS B xs w v := by
  obtain ⟨g, c, cs, h1, h2, h3, h4, h5, h6, h7⟩ := h
  exact ⟨g, c, cs, h1, h2, h3, h4, h5, Nat.le_trans hB h6, h7⟩
theorem BufS.buf {B : Nat} {xs : List Int} {w0 w : World} {v : Value} {L : List Ent} (h : BufS B xs w v) (H : Own w0 w L) (hB : w0.heap.size ≤ B) (hL : ∀ k ∈ L.map (·.1), k < B) : Buf 5 .u8 w0 w L v xs := by
  obtain ⟨g, c, cs, h1, h2, h3, h4, h5, h6, h7⟩ := h
  refine ⟨[(g, cs, 5)], ⟨by simp, Or.inr ⟨g, c, cs, h1, rfl, h2, h3, by omega, by rw [Nat.mul_one]; exact h5⟩⟩, ?_, fun j hj => by simp at hj; omega⟩
  refine ⟨H.os, H.tape, H.output, H.size, fun k hk hn => H.keep k hk (fun hm => hn (by rw [List.map_append]; exact List.mem_append_right _ hm)), ?_, fun b cs' T hm => ?_⟩
  · rw [List.map_append, List.nodup_append]
    refine ⟨by simp, H.nodup, ?_⟩
    rintro a ha b hb rfl
    simp at ha
    have := hL a hb
    omega
  · rcases List.mem_append.1 hm with hm | hm
    · simp at hm
      obtain ⟨rfl, rfl, rfl⟩ := hm
      exact h7
    · exact H.here b cs' T hm
theorem BufS.old {B : Nat} {xs : List Int} {w : World} {v : Value} (h : BufS B xs w v) : Old w v xs := by
  obtain ⟨g, c, cs, h1, h2, h3, h4, h5, h6, h7⟩ := h
  subst h1
  have H := Own.one h7
  refine ⟨Or.inr ⟨g, 0, c, rfl, ⟨h2, fun e => ?_⟩, fun i x hx => ?_⟩, fun k hk => by obtain rfl := (blk_some hk).1; exact H.lt (.head _)⟩
  · rw [List.eq_nil_of_length_eq_zero e]; rfl
  · rw [Nat.zero_add, H.cell (.head _)]
    rw [← h5, List.getElem?_take] at hx
    split at hx
    · exact hx
    · cases hx

end Go.Proofs.Ytfihlmnbonnekaa
