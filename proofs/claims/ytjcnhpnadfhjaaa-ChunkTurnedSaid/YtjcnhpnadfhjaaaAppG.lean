/- 'append' within a region that draws its order. No dump, no condition. -/
import Derived.Test.YtjcnhpnadfhjaaaGrowA
namespace Go.Proofs.Ytjcnhpnadfhjaaa
open Go.RowKit

section
variable {P : Program} {ops : Array Oper} {rest : List Oper} {o : Oper} {a : Act} {w w1 : World} {e : TypeId} {k : IntKind} {v xv : Value} {xs ys : List Int}

theorem Own.newobj (w : World) (x : Obj) : Own w (w.drew.alloc x) [] :=
  ⟨rfl, rfl, rfl, by show w.heap.size ≤ (w.heap.push x).size; rw [Array.size_push]; omega, fun k hk _ => Below.heap_alloc w.drew x k hk, List.nodup_nil, fun _ _ _ h => by cases h⟩

theorem append_gr (E : Buf e k w w1 [] v xs) {by_ : Nat} (he : Elem P e 1 by_) {s x : Operand} {t : TypeId} (ho : o.op = .call { callee := .builtin .append, args := #[s, x], argTypes := #[t, t] })
    (ht : P.underlying t = some (.slice e)) (hs : a.eval s = v) (hx : a.eval x = xv) (hsrc : SlAt w1 xv ys.length (ints k ys)) (hbytes : (xs.length + ys.length) * by_ ≤ 140737488355328) (h63 : xs.length + ys.length ≤ 140737488355328) :
    ∃ v' w2, (execOp a.eval o).run P w1 = .ok (.value v') w2 ∧ Gr w.heap.size xs.length w1 w2 := by
  obtain ⟨⟨i, z, hi, hz, hsz, rfl, hzs⟩, hpos⟩ := he
  obtain ⟨dst, op, ty, pos, aft, guard⟩ := o
  simp only at ho
  subst ho
  have hrun : ∀ r, (Builtin.append_ #[t, t] ty #[v, xv]).run P w1 = r → (execOp a.eval ⟨dst, .call { callee := .builtin .append, args := #[s, x], argTypes := #[t, t] }, ty, pos, aft, guard⟩).run P w1 = r.andThen fun v w => .ok (.value v) w := by
    intro r hr
    have e1 : execOp a.eval ⟨dst, .call { callee := .builtin .append, args := #[s, x], argTypes := #[t, t] }, ty, pos, aft, guard⟩ = builtin .append #[t, t] ty ((#[s, x] : Array Operand).map fun | .const _ => true | _ => false) ((#[s, x] : Array Operand).map a.eval) := rfl
    rw [e1]
    simp only [List.map_toArray, List.map_cons, List.map_nil, hs, hx, builtin, Sem.run_bind, hr]
    cases r <;> rfl
  have hrefl : Gr w.heap.size xs.length w1 w1 := Or.inl (Own.refl w1)
  obtain ⟨Lv, ⟨hxl, ⟨rfl, h2, rfl⟩ | ⟨g, cap, cs, rfl, rfl, hn, hcap, hc, htk⟩⟩, H, hd⟩ := E
  · have hx0 : xs = [] := List.eq_nil_of_length_eq_zero h2
    subst hx0
    rcases hsrc with ⟨⟨p, rfl⟩, h0, _⟩ | ⟨b, off, c, rfl, _, hcell⟩
    · refine ⟨.slice none 0 0, w1, ?_, hrefl⟩
      rw [hrun (.ok (.slice none 0 0) w1)]
      · rfl
      · cases p <;> simp [Builtin.append_, run_underlying ht, sizeOf, typeInfo, hi, Builtin.lenOf, Builtin.firstCells, loadCells, loadCellsFrom]
    · by_cases hm0 : ys.length = 0
      · refine ⟨.slice none 0 0, w1, ?_, hrefl⟩
        rw [hrun (.ok (.slice none 0 0) w1)]
        · rfl
        · rw [hm0]; simp [Builtin.append_, run_underlying ht, sizeOf, typeInfo, hi, Builtin.lenOf, Builtin.firstCells, loadCells, loadCellsFrom]
      · have hr := run_append_nil (P := P) w1 t ty e i z ht hi hz ⟨b, off, none⟩ ys.length c (ints k ys) (by rw [hsz]; simp) (fun j v hv => by rw [add_plain]; exact hcell j v hv) (by omega) (by simp at h63; omega) (by simp at hbytes; omega)
        exact ⟨_, _, hrun _ hr, Or.inl (Own.newobj w1 _)⟩
  · have hcell0 : ∀ j v, (ints k xs)[j]? = some v → w1.cell? ((⟨g, 0, none⟩ : Addr).add j) = some v := by
      intro j v hv
      rw [add_plain, Nat.zero_add, H.cell (cs := cs) (T := e) (by simp)]
      rw [← htk, List.getElem?_take] at hv
      split at hv
      · exact hv
      · cases hv
    rcases hsrc with ⟨⟨p, rfl⟩, h0, _⟩ | ⟨b, off, c, rfl, _, hcell⟩
    · refine ⟨.slice (some ⟨g, 0, none⟩) xs.length cap, w1, ?_, hrefl⟩
      rw [hrun (.ok (.slice (some ⟨g, 0, none⟩) xs.length cap) w1)]
      · rfl
      · cases p <;> simp [Builtin.append_, run_underlying ht, sizeOf, typeInfo, hi, Builtin.lenOf, Builtin.firstCells, hn, storeCells, loadCells, loadCellsFrom]
    · by_cases hroom : xs.length + ys.length ≤ cap
      · have hb := H.here g cs e (by simp)
        have hfit : xs.length * i.size + (ints k ys).length ≤ cs.length := by rw [hsz, hc, length_ints]; omega
        have hr := run_append_room (P := P) w1 t ty e i ht hi g xs.length cap cs.toArray hb ⟨b, off, none⟩ ys.length c (ints k ys) (by rw [hsz]; simp) (fun j v hv => by rw [add_plain]; exact hcell j v hv) (oneCell_ints k ys) hroom (by simpa using hfit)
        have h2 := (Own.one hb).set (At.head (L := []) (cs' := cs.take (xs.length * i.size) ++ ints k ys ++ cs.drop (xs.length * i.size + (ints k ys).length)))
        refine ⟨_, _, hrun _ hr, Or.inr ⟨g, cs, cs.take (xs.length * i.size) ++ ints k ys ++ cs.drop (xs.length * i.size + (ints k ys).length), e, ?_, hb, by simpa using h2, ?_, ?_⟩⟩
        · exact hd g (by simp)
        · simp only [List.length_append, List.length_take, List.length_drop]; omega
        · rw [hsz, Nat.mul_one, List.append_assoc, List.take_append_of_le_length (by simp; omega), List.take_take, Nat.min_self]
      · have hr := run_append_grow (P := P) w1 t ty e i z ht hi hz ⟨g, 0, none⟩ xs.length cap (ints k xs) (by rw [hsz]; simp) hcell0 ⟨b, off, none⟩ ys.length c (ints k ys) (by rw [hsz]; simp) (fun j v hv => by rw [add_plain]; exact hcell j v hv) (by omega) (by omega) (growslice_fits (by omega) hbytes)
        exact ⟨_, _, hrun _ hr, Or.inl (Own.newobj w1 _)⟩

/-- append, and what it makes -/
theorem append_both (E : Buf e k w w1 [] v xs) {by_ : Nat} (he : Elem P e 1 by_) {s x : Operand} {t : TypeId} (ho : o.op = .call { callee := .builtin .append, args := #[s, x], argTypes := #[t, t] })
    (ht : P.underlying t = some (.slice e)) (hs : a.eval s = v) (hx : a.eval x = xv) (hsrc : SlAt w1 xv ys.length (ints k ys)) (hbytes : (xs.length + ys.length) * by_ ≤ 140737488355328) (h63 : xs.length + ys.length ≤ 140737488355328) :
    YieldsTo P o a w1 (fun v' w2 => Gr w.heap.size xs.length w1 w2 ∧ Buf e k w w2 [] v' (xs ++ ys)) := by
  obtain ⟨v1, w2, hr, hg⟩ := append_gr E he ho ht hs hx hsrc hbytes h63
  obtain ⟨Lv, h1, h2, h3⟩ := E
  obtain ⟨v', w', Lv', hrun, f1, f2, f3⟩ := rn_append he h2 ho ht hs hx h1 hsrc (by simp [ints]) (oneCell_ints _ _) hbytes h63 h3
  rw [hr] at hrun
  cases hrun
  refine yieldsTo_val' hr ⟨hg, Lv', ?_, f2, f3⟩
  rw [List.length_append, ints_append]
  exact f1

/-- a slice literal of the region's own -/
theorem buildSlice_buf (hw : Own w w1 []) {t : TypeId} {len : Nat} {parts : Array (Nat × Operand)} (ho : o.op = .buildSlice t len parts) (hl : len = xs.length) (hm : xs.length ≤ 140737488355328)
    (hf : ∀ w', (Instr.buildSlice t len (parts.map fun (i, x) => (i, a.eval x))).run P w' = .ok (.slice (some ⟨w'.heap.size, 0, none⟩) len len) (w'.alloc (.cells (ints k xs).toArray e))) :
    YieldsTo P o a w1 (fun v' w2 => Own w1 w2 [] ∧ Buf e k w w2 [] v' xs) := by
  subst hl
  obtain ⟨n, w2, hr, hn, ho1⟩ := rn_buildSlice (o := o) (a := a) (Own.refl w1) ho hf
  obtain ⟨n', w2', hr', hn', ho1'⟩ := rn_buildSlice (o := o) (a := a) hw ho hf
  rw [hr] at hr'
  cases hr'
  exact yieldsTo_val' hr ⟨ho1.end0 (by simpa using hn), Buf.lit ho1' hn' hm⟩
end

section
variable {P : Program} {ops : Array Oper} {w : World} {K : (World → (Nat → Prop) → Prop) → Act → Prop} {sps : List Sq} {o : Oper} {rest : List Oper} {F : World → (Nat → Prop) → Prop} {a : Act} {e : TypeId} {k : IntKind} {v xv : Value} {xs ys : List Int}

theorem Buf.mono : Mono (fun w' v => Buf e k w w' [] v xs) := fun _ _ _ h hb => hb.call0 h

theorem sq_litB {t : TypeId} {len : Nat} {parts : Array (Nat × Operand)} (hw : Region.wanted o (yielded ops a.tmps) = true) (ho : o.op = .buildSlice t len parts) (hl : len = xs.length) (hm : xs.length ≤ 140737488355328)
    (hf : ∀ w', (Instr.buildSlice t len (parts.map fun (i, x) => (i, a.eval x))).run P w' = .ok (.slice (some ⟨w'.heap.size, 0, none⟩) len len) (w'.alloc (.cells (ints k xs).toArray e)))
    (h2 : ∀ v, wpSq P ops w K sps rest (fun w' S => F w' S ∧ ∀ d, o.dst = some d → S d → Buf e k w w' [] v xs) (a.put o.dst v)) : wpSq P ops w K (.rel (fun w' v => Buf e k w w' [] v xs) :: sps) (o :: rest) F a :=
  sq_rel Buf.mono hw (fun _ hw' _ => buildSlice_buf hw' ho hl hm hf) h2

/-- what a slice of old memory reads as: it hangs on no later world -/
def OldIs (w : World) (k : IntKind) (xs : List Int) : World → Value → Prop := fun _ v => (∃ p c, v = .slice p xs.length c) ∧ SlAt w v xs.length (ints k xs) ∧ ∀ j, blk v = some j → j < w.heap.size
theorem OldIs.mono (w : World) (k : IntKind) (xs : List Int) : Mono (OldIs w k xs) := fun _ _ _ _ h => h
theorem OldIs.at {w1 : World} (h : OldIs w k xs w1 v) (ho : Own w w1 []) : SlAt w1 v xs.length (ints k xs) := SlAt.own h.2.1 ho (by simp)

/-- an operation that leaves the world, and yields a part of old memory -/
theorem sq_old (hw : Region.wanted o (yielded ops a.tmps) = true) (hrun : ∃ p c, (∀ w', (execOp a.eval o).run P w' = .ok (.value (.slice p xs.length c)) w') ∧ SlAt w (.slice p xs.length c) xs.length (ints k xs) ∧ ∀ j, blk (Value.slice p xs.length c) = some j → j < w.heap.size)
    (h2 : ∀ v, wpSq P ops w K sps rest (fun w' S => F w' S ∧ ∀ d, o.dst = some d → S d → OldIs w k xs w' v) (a.put o.dst v)) : wpSq P ops w K (.rel (OldIs w k xs) :: sps) (o :: rest) F a := by
  obtain ⟨p, c, hrun, h3, h4⟩ := hrun
  exact sq_rel (OldIs.mono w k xs) hw (fun w' _ _ => yieldsTo_val' (hrun w') ⟨Own.refl w', ⟨_, _, rfl⟩, h3, h4⟩) h2

end
end Go.Proofs.Ytjcnhpnadfhjaaa
