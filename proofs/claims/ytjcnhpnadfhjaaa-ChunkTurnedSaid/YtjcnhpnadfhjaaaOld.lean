/- Slices of bytes, and slices of these, that were there before a call. No dump, no condition. -/
import Derived.Test.YtjcnhpnadfhjaaaOps
import Derived.ChangeSlices
import Derived.ChangeShapes
import Derived.WideShapes
namespace Go.Proofs.Ytjcnhpnadfhjaaa
open Go.RowKit Go.ChangeShapes

/-- what is known of a slice of bytes that was there -/
def Old (w : World) (v : Value) (bs : List Int) : Prop := BytesAt w v bs ∧ ∀ k, blk v = some k → k < w.heap.size

theorem Old.at {w w1 : World} {v : Value} {bs : List Int} {L : List Ent} (h : Old w v bs) (ho : Own w w1 L) (hn : ∀ k ∈ L.map (·.1), w.heap.size ≤ k) : BytesAt w1 v bs :=
  SlAt.own h.1 ho (fun j hj hm => by have := h.2 j hj; have := hn j hm; omega)
theorem Old.lt {w w1 : World} {v : Value} {bs : List Int} (h : Old w v bs) (hs : w.heap.size ≤ w1.heap.size) : ∀ k, blk v = some k → k < w1.heap.size := fun k hk => Nat.lt_of_lt_of_le (h.2 k hk) hs
theorem Old.ne {w : World} {v : Value} {bs : List Int} (h : Old w v bs) {d : Nat} (hd : w.heap.size ≤ d) : ∀ k, blk v = some k → k ≠ d := fun k hk => by have := h.2 k hk; omega
theorem Old.mv {w w1 : World} {v : Value} {bs : List Int} {L : List Ent} (h : Old w v bs) (ho : Own w w1 L) (hn : ∀ k ∈ L.map (·.1), w.heap.size ≤ k) : Old w1 v bs := ⟨h.at ho hn, h.lt ho.size⟩
theorem Old.shape {w : World} {v : Value} {bs : List Int} (h : Old w v bs) : ∃ p c, v = .slice p bs.length c := by
  rcases h.1.cell with ⟨⟨p, rfl⟩, rfl⟩ | ⟨b, off, cap, rfl, _, _⟩
  · exact ⟨p, 0, rfl⟩
  · exact ⟨_, _, rfl⟩

theorem Old.sub {w : World} {v : Value} {xs : List Int} (h : Old w v xs) {p : Option Addr} {c l m : Nat} (hb : SlAt w (.slice p m c) m (((u8s xs).drop l).take m) ∧ ∀ k, blk (Value.slice p m c) = some k → blk v = some k) (hl : ((xs.drop l).take m).length = m) : Old w (.slice p m c) ((xs.drop l).take m) := by
  refine ⟨?_, fun k hk => h.2 k (hb.2 k hk)⟩
  have h1 := hb.1
  unfold BytesAt
  rw [hl]
  have e : ((u8s xs).drop l).take m = u8s ((xs.drop l).take m) := by simp [ints, List.map_take, List.map_drop]
  rwa [e] at h1

theorem sub_old {P : Program} {o : Oper} {a : Act} {w : World} {t : TypeId} {x : Operand} {lo hi : Option Operand} (ho : o.op = .slice t x lo hi none) {e : TypeId} (hu : P.underlying t = some (.slice e)) (hsz : (P.info? e).map (·.size) = some 1) {p0 : Option Addr} {n c0 : Nat}
    (hx : a.eval x = .slice p0 n c0) {xs : List Int} (h : Old w (.slice p0 n c0) xs) (hn : n = xs.length) {l h' : Nat} (hl : BoundIs (lo.map a.eval) 0 l) (hh : BoundIs (hi.map a.eval) n h') (h1 : l ≤ h') (h2 : h' ≤ n) {zs : List Int} (hz : (xs.drop l).take (h' - l) = zs) :
    ∃ p c, (∀ w', (execOp a.eval o).run P w' = .ok (.value (.slice p zs.length c)) w') ∧ SlAt w (.slice p zs.length c) zs.length (ints .u8 zs) ∧ ∀ j, blk (Value.slice p zs.length c) = some j → j < w.heap.size := by
  have hl' : h' - l = zs.length := by rw [← hz, List.length_take, List.length_drop]; omega
  have hb : SlAt w (.slice p0 n c0) n (u8s xs) := by have := h.1; rw [BytesAt, ← hn] at this; exact this
  obtain ⟨p, c, h3, h4, h5⟩ := rn_sub (m := zs.length) ho hu hsz hx hb (by rw [length_ints]; exact hn.symm) hl hh h1 h2 hl'
  refine ⟨p, c, h3, ?_, fun j hj => h.2 j (h5 j hj)⟩
  have e : ((u8s xs).drop l).take zs.length = u8s zs := by rw [← hl', ← hz]; simp [ints, List.map_take, List.map_drop]
  rwa [e] at h4

/-- a slice of slices of bytes that was there -/
structure OldL (w : World) (v : Value) (ls : List (Value × List Int)) : Prop where
  sl : SlAt w v ls.length (ls.map (·.1))
  lt : ∀ k, blk v = some k → k < w.heap.size
  el : ∀ (i : Nat) (x : Value × List Int), ls[i]? = some x → Old w x.1 x.2 ∧ (∃ p c, x.1 = .slice p x.2.length c) ∧ ∀ j, j < x.2.length → 0 ≤ x.2[j]?.getD 0 ∧ x.2[j]?.getD 0 < 256

section
variable {P : Program} {w : World} {t e : TypeId} {v : Value} {base : Nat} {H : Type} {enc : TypeId × Value → H}

theorem trod_bytes {fuel : Nat} {cs : List Value} {x : DataW H × List MemPlace} (ht : P.underlying t = some (.slice e)) (he : P.underlying e = some (.int .u8)) (hs : P.cellsOf e = 1)
    (hf : DataW.trod enc P w 0 (fun _ => true) true fuel t cs = some x) :
    ∃ p l c bs, cs = [.slice p l c] ∧ Old w (.slice p l c) bs ∧ bs.length = l ∧ ∀ i, i < bs.length → 0 ≤ bs[i]?.getD 0 ∧ bs[i]?.getD 0 < 256 := by
  rcases open_ints ht he hs hf with ⟨rfl, _⟩ | ⟨⟨b, off, spot⟩, l, c, zs, rfl, _, hl, hm, hz, _, hcell, hwz⟩
  · exact ⟨none, 0, 0, [], rfl, ⟨Or.inl ⟨⟨_, rfl⟩, rfl, rfl⟩, (by intro k hk; cases hk)⟩, rfl, by simp⟩
  · have hz' : zs.length = c := by simpa using hz
    have hlen : (zs.take l).length = l := by rw [List.length_take]; omega
    have hrange : ∀ i, i < (zs.take l).length → 0 ≤ (zs.take l)[i]?.getD 0 ∧ (zs.take l)[i]?.getD 0 < 256 := by
      intro i hi
      have hi2 : i < l := by omega
      have hi3 : i < zs.length := by omega
      have hw := hwz zs[i] (List.getElem_mem hi3)
      simp [Lit.wf, IntKind.min, IntKind.max, IntKind.signed, IntKind.bits] at hw
      simp [hi2, hi3]
      omega
    by_cases hc0 : c = 0
    · subst hc0
      obtain rfl : l = 0 := by omega
      exact ⟨_, 0, 0, [], rfl, ⟨Or.inl ⟨⟨_, rfl⟩, rfl, rfl⟩, (by intro k hk; rw [blk_zero] at hk; cases hk)⟩, rfl, by simp⟩
    · have h0 := hcell 0 (by omega)
      have hadd : (⟨b, off, spot⟩ : Addr).add 0 = ⟨b, off, spot⟩ := rfl
      rw [hadd] at h0
      have hb := World.block_lt_of_cell? w _ h0
      obtain rfl : spot = none := by
        unfold World.cell? at h0
        cases spot with
        | none => rfl
        | some s => split at h0 <;> simp at h0
      refine ⟨_, l, c, zs.take l, rfl, ⟨?_, ?_⟩, hlen, hrange⟩
      · refine Or.inr ⟨b, off, c, by rw [hlen], ⟨by omega, fun h => by rw [List.eq_nil_of_length_eq_zero h]; rfl⟩, fun i v hv => ?_⟩
        have hi : i < (zs.take l).length := by
          rcases Nat.lt_or_ge i (zs.take l).length with h | h
          · exact h
          · rw [List.getElem?_eq_none (by simpa [ints] using h)] at hv; cases hv
        have h1 := hcell i (by omega)
        rw [add_plain] at h1
        rw [h1, ints_get hi] at *
        simp only [Option.some.injEq] at hv
        subst hv
        have : i < zs.length := by omega
        have hi2 : i < l := by omega
        simp [this, hi2]
      · intro k hk
        obtain rfl := (blk_some hk).1
        exact hb

theorem exists_list {α : Type} {n : Nat} {Q : Nat → α → Prop} (h : ∀ i, i < n → ∃ x, Q i x) : ∃ l : List α, l.length = n ∧ ∀ i x, l[i]? = some x → Q i x := by
  induction n with
  | zero => exact ⟨[], rfl, by simp⟩
  | succ n ih =>
    obtain ⟨l, hl, hq⟩ := ih (fun i hi => h i (by omega))
    obtain ⟨x, hx⟩ := h n (by omega)
    refine ⟨l ++ [x], by simp [hl], fun i y hy => ?_⟩
    rcases Nat.lt_trichotomy i n with hi | hi | hi
    · rw [List.getElem?_append_left (by omega)] at hy; exact hq i y hy
    · subst hi
      rw [List.getElem?_append_right (by omega), hl] at hy
      simp at hy; subst hy; exact hx
    · rw [List.getElem?_eq_none (by simp; omega)] at hy; cases hy

/-- a slice of slices of bytes that came in -/
theorem open_bytess {e2 : TypeId} {d : DataW H} {ps : List MemPlace} (ht : P.underlying t = some (.slice e2)) (he2 : P.underlying e2 = some (.slice e)) (he : P.underlying e = some (.int .u8)) (hs2 : P.cellsOf e2 = 1) (hs : P.cellsOf e = 1)
    (hv : Value.okWide P w .any base t v) (h : DataW.Trod enc P w 0 (fun _ => true) true t v d ps) : ∃ a l c ls, v = .slice a l c ∧ OldL w (.slice a l c) ls ∧ ls.length = l := by
  obtain ⟨a, l, c, rfl⟩ := Go.WideShapes.okWide_slice ht hv
  obtain ⟨fuel, hf⟩ := h
  rcases DataW.trod_slice ht hf with ⟨hcs, _⟩ | ⟨a', l', c', elems, rest, n, _, hcs, _, hb, hl, hm, hlen, hel, hsp, _⟩
  · simp [Value.cells] at hcs
    obtain ⟨rfl, rfl, rfl⟩ := hcs
    exact ⟨none, 0, 0, [], rfl, ⟨Or.inl ⟨⟨_, rfl⟩, rfl, rfl⟩, (by intro k hk; cases hk), by simp⟩, rfl⟩
  · simp [Value.cells] at hcs
    obtain ⟨rfl, rfl, rfl⟩ := hcs
    by_cases hc0 : c = 0
    · subst hc0
      obtain rfl : l = 0 := by omega
      exact ⟨_, 0, 0, [], rfl, ⟨Or.inl ⟨⟨_, rfl⟩, rfl, rfl⟩, (by intro k hk; rw [blk_zero] at hk; cases hk), by simp⟩, rfl⟩
    · have each : ∀ i y, (elems ++ rest)[i]? = some y → ∃ cs', w.cells? 0 (a'.add i) 1 = some cs' ∧ DataW.trod enc P w 0 (fun _ => true) true n e2 cs' = some y := by
        intro i y hy
        obtain ⟨hrl, hr⟩ := hsp rfl
        have hb' : (w.cells? 0 (a'.add (i * P.cellsOf e2)) (P.cellsOf e2)).bind (DataW.trod enc P w 0 (fun _ => true) true n e2) = some y := by
          by_cases hi : i < l
          · rw [hel i hi, ← hy, List.getElem?_append_left (by omega)]
          · have hi' : i - l < rest.length := by
              have := (List.getElem?_eq_some_iff.1 hy).1
              simp at this
              omega
            have := hr (i - l) (by omega)
            rw [show l + (i - l) = i by omega] at this
            rw [this, ← hy, List.getElem?_append_right (by omega), hlen]
        rw [hs2, Nat.mul_one, Option.bind_eq_some_iff] at hb'
        exact hb'
      have one : ∀ i, i < c → ∃ p l2 c2 bs, w.cell? (a'.add i) = some (.slice p l2 c2) ∧ Old w (.slice p l2 c2) bs ∧ bs.length = l2 ∧ ∀ j, j < bs.length → 0 ≤ bs[j]?.getD 0 ∧ bs[j]?.getD 0 < 256 := by
        intro i hi
        have hrl := (hsp rfl).1
        have hi' : i < (elems ++ rest).length := by simp; omega
        obtain ⟨cs', h1, h2⟩ := each i _ (List.getElem?_eq_getElem hi')
        obtain ⟨p, l2, c2, bs, rfl, h3, h4, h5⟩ := trod_bytes he2 he hs h2
        exact ⟨p, l2, c2, bs, cell_of_cells?_one h1, h3, h4, h5⟩
      obtain ⟨p0, l0, c0, bs0, h0, _⟩ := one 0 (by omega)
      obtain ⟨b, off, spot⟩ := a'
      have hadd : (⟨b, off, spot⟩ : Addr).add 0 = ⟨b, off, spot⟩ := rfl
      rw [hadd] at h0
      have hb2 := World.block_lt_of_cell? w _ h0
      obtain rfl : spot = none := by
        unfold World.cell? at h0
        cases spot with
        | none => rfl
        | some s => split at h0 <;> simp at h0
      obtain ⟨ls, hls, hq⟩ := exists_list (α := Value × List Int) (n := l) (Q := fun i x => w.cell? ⟨b, off + i, none⟩ = some x.1 ∧ Old w x.1 x.2 ∧ (∃ p c, x.1 = .slice p x.2.length c) ∧ ∀ j, j < x.2.length → 0 ≤ x.2[j]?.getD 0 ∧ x.2[j]?.getD 0 < 256) (fun i hi => by
        obtain ⟨p, l2, c2, bs, h1, h2, h3, h4⟩ := one i (by omega)
        rw [add_plain] at h1
        exact ⟨(_, bs), h1, h2, ⟨p, c2, by rw [h3]⟩, h4⟩)
      refine ⟨_, l, c, ls, rfl, ⟨?_, ?_, fun i x hx => (hq i x hx).2⟩, hls⟩
      · rw [hls]
        refine Or.inr ⟨b, off, c, rfl, ⟨hl, fun h => List.eq_nil_of_length_eq_zero (by rw [List.length_map, hls, h])⟩, fun i x hx => ?_⟩
        rw [List.getElem?_map] at hx
        cases hy : ls[i]? with
        | none => simp [hy] at hx
        | some y =>
          simp only [hy, Option.map_some, Option.some.injEq] at hx
          subst hx
          exact (hq i y hy).1
      · intro k hk
        obtain rfl := (blk_some hk).1
        exact hb2
end
end Go.Proofs.Ytjcnhpnadfhjaaa
