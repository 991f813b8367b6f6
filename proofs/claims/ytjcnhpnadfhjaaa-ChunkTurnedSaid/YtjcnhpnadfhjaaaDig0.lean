/- What a digest holds, in plain Lean: blocks done, bytes left over; what writing more does to it. Nothing of the program here. -/
import Derived.Test.YtjcnhpnadfhjaaaWords
import Derived.Laws.CopyOwn
namespace Go.Proofs.Ytjcnhpnadfhjaaa

theorem word_congr {as bs : List Int} {p q : Nat} (h : ∀ i, i < 4 → as[p + i]?.getD 0 = bs[q + i]?.getD 0) : word as p = word bs q := by
  unfold word
  have h0 := h 0 (by omega); have h1 := h 1 (by omega); have h2 := h 2 (by omega); have h3 := h 3 (by omega)
  simp only [Nat.add_zero] at h0
  rw [h0, h1, h2, h3]

theorem words_congr {as bs : List Int} {p q : Nat} : ∀ n, (∀ i, i < 4 * n → as[p + i]?.getD 0 = bs[q + i]?.getD 0) → words as p n = words bs q n
  | 0, _ => rfl
  | n + 1, h => by
    simp only [words]
    rw [words_congr n (fun i hi => h i (by omega)), word_congr (p := p + 4 * n) (q := q + 4 * n) (fun i hi => by
      have := h (4 * n + i) (by omega)
      rwa [← Nat.add_assoc, ← Nat.add_assoc] at this)]

theorem comp_congr {s : St} {as bs : List Int} {p q : Nat} (h : ∀ i, i < 64 → as[p + i]?.getD 0 = bs[q + i]?.getD 0) : comp s as p = comp s bs q := by
  unfold comp
  rw [words_congr 16 h]

theorem comps_congr {s : St} {as bs : List Int} {p q : Nat} : ∀ n, (∀ i, i < 64 * n → as[p + i]?.getD 0 = bs[q + i]?.getD 0) → comps s as p n = comps s bs q n
  | 0, _ => rfl
  | n + 1, h => by
    simp only [comps]
    rw [comps_congr n (fun i hi => h i (by omega)), comp_congr (p := p + 64 * n) (q := q + 64 * n) (fun i hi => by
      have := h (64 * n + i) (by omega)
      rwa [← Nat.add_assoc, ← Nat.add_assoc] at this)]

theorem comps_add (s : St) (bs : List Int) (p m : Nat) : ∀ n, comps s bs p (m + n) = comps (comps s bs p m) bs (p + 64 * m) n
  | 0 => rfl
  | n + 1 => by
    rw [← Nat.add_assoc]
    simp only [comps]
    rw [comps_add s bs p m n, show p + 64 * (m + n) = p + 64 * m + 64 * n by omega]

/-- what a digest of these bytes holds -/
def DigOf (xs : List Int) (st : St) (rest : List Int) : Prop :=
  st = comps st0 xs 0 (xs.length / 64) ∧ rest.length = 64 ∧ rest.take (xs.length % 64) = xs.drop (64 * (xs.length / 64))

theorem DigOf.nil : DigOf [] st0 (List.replicate 64 0) := ⟨rfl, by simp, rfl⟩

/-- few: they are put behind the rest -/
theorem DigOf.few {xs bs : List Int} {st : St} {rest : List Int} (h : DigOf xs st rest) (hb : xs.length % 64 + bs.length < 64) :
    DigOf (xs ++ bs) st (splice rest (xs.length % 64) bs) := by
  obtain ⟨h1, h2, h3⟩ := h
  have hd : (xs ++ bs).length / 64 = xs.length / 64 := by simp; omega
  have hm : (xs ++ bs).length % 64 = xs.length % 64 + bs.length := by simp; omega
  refine ⟨?_, by rw [length_splice _ _ _ (by omega)]; exact h2, ?_⟩
  · rw [hd, h1]
    exact comps_congr _ (fun i hi => by rw [Nat.zero_add, List.getElem?_append_left (by omega)])
  · rw [hd, hm]
    unfold splice
    rw [List.drop_append_of_le_length (by omega), ← h3, ← List.append_assoc]
    have hl : (rest.take (xs.length % 64) ++ bs).length = xs.length % 64 + bs.length := by simp; omega
    rw [← hl, List.take_left]

/-- enough to fill the rest: it is done, and so are the blocks behind it; what is left over is the rest -/
theorem DigOf.many {xs bs : List Int} {st : St} {rest : List Int} {r : Nat} (h : DigOf xs st rest) (hr : (xs.length + r) % 64 = 0) (hr2 : r ≤ bs.length) (hr3 : 0 < xs.length % 64 ∧ r < 64 ∨ r = 0) {rest' : List Int} (hl' : rest'.length = 64)
    (ht : rest'.take ((bs.length - r) % 64) = bs.drop (r + 64 * ((bs.length - r) / 64))) :
    DigOf (xs ++ bs) (comps (if r = 0 then st else comps st (splice rest (xs.length % 64) (bs.take r)) 0 1) (bs.drop r) 0 ((bs.length - r) / 64)) rest' := by
  obtain ⟨h1, h2, h3⟩ := h
  refine ⟨?_, hl', ?_⟩
  · -- the blocks
    have hA : (xs.length + r) / 64 = xs.length / 64 + (if r = 0 then 0 else 1) := by split <;> omega
    have hall : (xs ++ bs).length / 64 = (xs.length + r) / 64 + (bs.length - r) / 64 := by simp; omega
    rw [hall, comps_add]
    have e1 : comps st0 (xs ++ bs) 0 ((xs.length + r) / 64) = if r = 0 then st else comps st (splice rest (xs.length % 64) (bs.take r)) 0 1 := by
      rw [hA, comps_add]
      have e0 : comps st0 (xs ++ bs) 0 (xs.length / 64) = st := by
        rw [h1]
        exact comps_congr _ (fun i hi => by rw [Nat.zero_add, List.getElem?_append_left (by omega)])
      rw [e0]
      split
      · rfl
      · rename_i hr0
        refine comps_congr 1 (fun i hi => ?_)
        have hx : 0 < xs.length % 64 := by omega
        unfold splice
        by_cases hi1 : i < xs.length % 64
        · rw [List.getElem?_append_left (by simp; omega), List.getElem?_append_left (by simp; omega), h3, List.getElem?_drop]
          simp
        · by_cases hi2 : i < 64
          · have hlt : (rest.take (xs.length % 64)).length = xs.length % 64 := by simp; omega
            rw [List.getElem?_append_right (by omega), List.getElem?_append_right (by omega), hlt, List.getElem?_append_left (by simp; omega), List.getElem?_take_of_lt (by omega)]
            congr 2; omega
          · omega
    rw [e1]
    refine (comps_congr _ (fun i hi => ?_))
    rw [List.getElem?_append_right (by omega), List.getElem?_drop]
    congr 2; omega
  · have hm : (xs ++ bs).length % 64 = (bs.length - r) % 64 := by simp; omega
    have hq : 64 * ((xs ++ bs).length / 64) = xs.length + (r + 64 * ((bs.length - r) / 64)) := by simp; omega
    have e1 : (xs ++ bs).drop (xs.length + (r + 64 * ((bs.length - r) / 64))) = bs.drop (r + 64 * ((bs.length - r) / 64)) := by
      rw [← List.drop_drop, List.drop_left]
    rw [hm, hq, ht, e1]

end Go.Proofs.Ytjcnhpnadfhjaaa
