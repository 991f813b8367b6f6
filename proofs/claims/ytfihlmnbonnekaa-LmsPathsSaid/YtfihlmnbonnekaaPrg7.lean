/- ots: Candidate. -/
import Derived.Test.YtfihlmnbonnekaaPrg6
namespace Go.Proofs.Ytfihlmnbonnekaa
open Go.RowKit

theorem Own.self {w0 w : World} {L : List Ent} (H : Own w0 w L) : Own w w L := ⟨rfl, rfl, rfl, Nat.le_refl _, fun _ _ _ => rfl, H.nodup, H.here⟩
theorem Own.transNew {w0 w w' : World} {L L' : List Ent} (H : Own w0 w L) (hu : Own w w' L') (h1 : ∀ k ∈ L.map (·.1), w0.heap.size ≤ k) (h2 : ∀ k ∈ L'.map (·.1), w0.heap.size ≤ k) : Own w0 w' [] :=
  ⟨hu.os.trans H.os, hu.tape.trans H.tape, hu.output.trans H.output, Nat.le_trans H.size hu.size, fun k hk _ => (hu.keep k (Nat.lt_of_lt_of_le hk H.size) (fun hm => by have := h2 k hm; omega)).trans (H.keep k hk (fun hm => by have := h1 k hm; omega)), List.nodup_nil, fun _ _ _ h => by cases h⟩
theorem SlAt.back {w w' : World} {v : Value} {n : Nat} {xs : List Value} {L : List Ent} (h : SlAt w' v n xs) (ho : Own w w' L) (hn : ∀ k, blk v = some k → k ∉ L.map (·.1) ∧ k < w.heap.size) : SlAt w v n xs := by
  rcases h with h | ⟨b, off, cap, rfl, h2, h3⟩
  · exact Or.inl h
  · refine Or.inr ⟨b, off, cap, rfl, h2, fun i x hx => ?_⟩
    have h4 := h3 i x hx
    by_cases hc : cap = 0
    · have : n = 0 := by omega
      have := h2.2 this
      subst this
      simp at hx
    · obtain ⟨h5, h6⟩ := hn b (by show (if cap = 0 then none else some b) = some b; rw [if_neg hc])
      rw [← h4]
      exact (World.cell?_of_block (w := w) (ho.keep b h6 h5)).symm

/-- a step that turns a block in which no number lies -/
def CeE (T : TypeId) (m : Nat) : World → World → Prop := fun w1 w2 => ∃ g cs cs', (cs.length = m ∧ ∀ c ∈ cs, ∀ k z, c ≠ Value.int k z) ∧ w1.heap[g]? = some (.cells (List.toArray cs) T (0, 0)) ∧ Own w1 w2 [(g, cs', T)] ∧ cs'.length = m ∧ ∀ c ∈ cs', ∀ k z, c ≠ Value.int k z
theorem RdE.ce {B r : Nat} {w1 w2 : World} (h : RdE B r w1 w2) : ∃ g cs cs', (∀ c ∈ cs, ∀ k z, c ≠ Value.int k z) ∧ w1.heap[g]? = some (.cells (List.toArray cs) 132 (0, 0)) ∧ Own w1 w2 [(g, cs', 132)] := by
  obtain ⟨_, ⟨c, d, hc, hd, h1⟩, cs, h2⟩ := h
  exact ⟨r, [c, d], cs, fun x hx => by
    simp only [List.mem_cons, List.not_mem_nil, or_false] at hx
    rcases hx with rfl | rfl
    · exact hc
    · exact hd, h1, h2⟩
theorem IIn.presG {k : IntKind} {xs : List Int} {w1 w2 : World} {v : Value} {g : Nat} {cs cs' : List Value} {T : TypeId} (hcs : ∀ c ∈ cs, ∀ k z, c ≠ Value.int k z) (hg : w1.heap[g]? = some (.cells (List.toArray cs) T (0, 0))) (ho : Own w1 w2 [(g, cs', T)]) (h : IIn k xs w1 v) : IIn k xs w2 v := by
  obtain ⟨h1, h2, h3⟩ := h
  refine ⟨h1, ?_, fun j hj => Nat.lt_of_lt_of_le (h3 j hj) ho.size⟩
  rcases h2 with h2 | ⟨b, off, cap, e1, e2, e3⟩
  · exact Or.inl h2
  · refine Or.inr ⟨b, off, cap, e1, e2, fun i x hx => ?_⟩
    have h4 := e3 i x hx
    by_cases e : b = g
    · subst e
      exfalso
      rw [cell_of_row w1 b (off + i) _ _ _ hg] at h4
      obtain ⟨z, hz⟩ : ∃ z, x = .int k z := by
        obtain ⟨hi, hx2⟩ := List.getElem?_eq_some_iff.1 hx
        exact ⟨xs[i]'(by simpa using hi), by rw [← hx2]; simp [ints]⟩
      subst hz
      have h5 : Value.int k z ∈ cs := List.mem_of_getElem? (by simpa using h4)
      exact hcs _ h5 k z rfl
    · rw [← h4]
      exact World.cell?_of_block (w := w1) (ho.keep b (World.block_lt_of_cell? w1 _ h4) (by simpa using e))
theorem IIn.presR {k : IntKind} {xs : List Int} {B r : Nat} : ∀ w1 w2 v, RdE B r w1 w2 → IIn k xs w1 v → IIn k xs w2 v := fun _ _ _ h h1 => by
  obtain ⟨g, cs, cs', a1, a2, a3⟩ := h.ce
  exact IIn.presG a1 a2 a3 h1
theorem IIn.presC {k : IntKind} {xs : List Int} {T : TypeId} {m : Nat} : ∀ w1 w2 v, CeE T m w1 w2 → IIn k xs w1 v → IIn k xs w2 v := fun _ _ _ ⟨_, _, _, a1, a2, a3, _⟩ h1 => IIn.presG a1.2 a2 a3 h1
theorem TupI.presR {xs : List Int} {B r : Nat} : ∀ w1 w2 v, RdE B r w1 w2 → TupI xs w1 v → TupI xs w2 v := fun _ _ _ h ⟨p, c, h1, h2⟩ => ⟨p, c, h1, IIn.presR _ _ _ h h2⟩
theorem TupI.presC {xs : List Int} {T : TypeId} {m : Nat} : ∀ w1 w2 v, CeE T m w1 w2 → TupI xs w1 v → TupI xs w2 v := fun _ _ _ h ⟨p, c, h1, h2⟩ => ⟨p, c, h1, IIn.presC _ _ _ h h2⟩
theorem UIn.presC {B : Nat} {ys : List Int} {T : TypeId} {m : Nat} (hT : T ≠ 5) : ∀ w1 w2 v, CeE T m w1 w2 → UIn B ys w1 v → UIn B ys w2 v := fun w1 w2 v ⟨g, cs, cs', _, a2, a3, _⟩ ⟨b, c, h1, h0, xs, h2, h3, h4⟩ => by
  have e : b ≠ g := by
    rintro rfl
    rw [a2] at h3
    have := Option.some.inj h3
    simp only [Obj.cells.injEq, and_true] at this
    exact hT this.2
  exact ⟨b, c, h1, h0, xs, h2, by rw [a3.keep b (Array.getElem?_eq_some_iff.1 h3).1 (by simpa using e)]; exact h3, h4⟩
/-- a cell of this type that is not older than B -/
def CellT (B : Nat) (T : TypeId) : World → Value → Prop := fun w v => ∃ g c, v = .pointer (some ⟨g, 0, none⟩) ∧ B ≤ g ∧ (∀ k z, c ≠ .int k z) ∧ w.heap[g]? = some (.cells #[c] T (0, 0))
theorem CellT.mono {B : Nat} {T : TypeId} : Mono (CellT B T) := fun w1 w2 v h ⟨g, c, h1, h2, h3, h4⟩ => ⟨g, c, h1, h2, h3, by rw [h.keep g (Array.getElem?_eq_some_iff.1 h4).1 (by simp)]; exact h4⟩
theorem cellT_alloc {P : Program} {o : Oper} {a : Act} {w1 : World} {ty : TypeId} {B : Nat} {c : Value} (ho : o.op = .alloc ty) (hz : ((P.info? ty).bind (·.zero)).map (fun z => z.cells.toList) = some [c]) (hc : ∀ k z, c ≠ .int k z) (hw : B ≤ w1.heap.size) :
    YieldsTo P o a w1 (fun v w' => Own w1 w' [] ∧ CellT B ty w' v) := by
  obtain ⟨n, w2, hr, hn, ho1⟩ := rn_alloc (P := P) (o := o) (a := a) (Own.refl w1) ho hz
  exact yieldsTo_val' hr ⟨ho1.end0 (by simpa using hn), n, c, rfl, Nat.le_trans hw hn, hc, ho1.here _ _ _ (.head _)⟩
theorem CellT.presR {B r : Nat} {T : TypeId} : ∀ w1 w2 v, RdE B r w1 w2 → CellT B T w1 v → CellT B T w2 v := fun w1 w2 v ⟨hr, _, cs, ho⟩ ⟨g, c, h1, h2, h3, h4⟩ => ⟨g, c, h1, h2, h3, by rw [ho.keep g (Array.getElem?_eq_some_iff.1 h4).1 (by simp; omega)]; exact h4⟩
theorem CellT.presC {B : Nat} {T U : TypeId} : ∀ w1 w2 v, CeE U 1 w1 w2 → CellT B T w1 v → CellT B T w2 v := fun w1 w2 v ⟨g, cs, cs', _, a2, a3, a4, a5⟩ ⟨b, c, h1, h2, h3, h4⟩ => by
  by_cases e : b = g
  · subst e
    rw [a2] at h4
    have h5 := Option.some.inj h4
    simp only [Obj.cells.injEq, and_true] at h5
    match cs', a4, a5, a3 with
    | [c'], _, a5, a3 => exact ⟨b, c', h1, h2, a5 c' (.head _), by rw [← h5.2]; exact a3.here _ _ _ (.head _)⟩
  · exact ⟨b, c, h1, h2, h3, by rw [a3.keep b (Array.getElem?_eq_some_iff.1 h4).1 (by simpa using e)]; exact h4⟩
theorem BytesAt.presC {T : TypeId} {m : Nat} {w1 w2 : World} {v : Value} {bs : List Int} (he : CeE T m w1 w2) (h : BIn bs w1 v) : BIn bs w2 v := IIn.presC (k := .u8) _ _ _ he h
theorem LitL.presC {T : TypeId} {ls : List (List Int)} (hl : 2 ≤ ls.length) : ∀ w1 w2 v, CeE T 1 w1 w2 → LitL ls w1 v → LitL ls w2 v := fun w1 w2 v he ⟨l, h1, h2⟩ => by
  have he' := he
  obtain ⟨g, cs, cs', ⟨a0, a1⟩, a2, a3, _⟩ := he'
  have hll : l.length = ls.length := by rw [← h2, List.length_map]
  refine ⟨l, ⟨?_, fun k hk => Nat.lt_of_lt_of_le (h1.lt k hk) a3.size, fun i x hx => ?_⟩, h2⟩
  · rcases h1.sl with h3 | ⟨b, off, cap, e1, e2, e3⟩
    · exact Or.inl h3
    · refine Or.inr ⟨b, off, cap, e1, e2, fun i x hx => ?_⟩
      have h4 := e3 i x hx
      by_cases e : b = g
      · exfalso
        subst e
        obtain ⟨y, hy⟩ : ∃ y, (l.map (·.1))[1]? = some y := ⟨_, List.getElem?_eq_getElem (by simp; omega)⟩
        have h5 := e3 1 y hy
        rw [cell_of_row w1 b (off + 1) _ _ _ a2] at h5
        have h6 : off + 1 < cs.length := (List.getElem?_eq_some_iff.1 (by simpa using h5)).1
        omega
      · rw [← h4]
        exact World.cell?_of_block (w := w1) (a3.keep b (World.block_lt_of_cell? w1 _ h4) (by simpa using e))
  · obtain ⟨o1, o2, o3⟩ := h1.el i x hx
    have := BytesAt.presC he (o1.bin)
    exact ⟨⟨this.2.1, this.2.2⟩, o2, o3⟩

end Go.Proofs.Ytfihlmnbonnekaa
