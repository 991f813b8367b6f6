/- What the law of a range over a function asks of a body: whatever is no cells lies as it lay. No dump, no condition. -/
import Derived.Test.YtjcnhpnadfhjaaaRegIn
import Derived.Test.YtjcnhpnadfhjaaaBufV
namespace Go.Proofs.Ytjcnhpnadfhjaaa
open Go.RowKit

section
variable {P : Program} {ops : Array Oper} {rest : List Oper} {o : Oper} {a : Act} {w w0 w1 : World} {Q : Exit → Act → World → Prop} {L L' : List Ent} {e : TypeId} {sz n : Nat} {v xv : Value} {cs : List Value}

theorem keeps_of_own {L : List Ent} (h : Own w w1 L) (hc : ∀ k ∈ L.map (·.1), ∀ x, w.heap[k]? = some x → x.isCells = true) : KeepsOthers w w1 :=
  ⟨h.size, fun k x hk hx => by
    have hlt := (Array.getElem?_eq_some_iff.1 hk).1
    rw [h.keep k hlt (fun hm => by rw [hc k hm x hk] at hx; cases hx)]
    exact hk⟩

theorem Own.grown {row : Option Nat} {B : Nat} (h : Own w0 w L) (hg : w.grownBy w1 row) (hr : ∀ r, row = some r → B ≤ r ∧ ∃ x : Obj, w.heap[r]? = some x ∧ x.isCells = false) (hB : w0.heap.size ≤ B) : Own w0 w1 L := by
  obtain ⟨g1, g2, g3, g4, g5⟩ := hg
  refine ⟨g1.trans h.os, g2.trans h.tape, g3.trans h.output, Nat.le_trans h.size g4, fun k hk hn => ?_, h.nodup, fun b cs T hm => ?_⟩
  · refine (g5 k (Nat.lt_of_lt_of_le hk h.size) (fun e => ?_)).trans (h.keep k hk hn)
    have := (hr k e.symm).1
    omega
  · have hh := h.here b cs T hm
    refine (g5 b (Array.getElem?_eq_some_iff.1 hh).1 (fun e => ?_)).trans hh
    obtain ⟨_, x, hx, hc⟩ := hr b e.symm
    rw [hh] at hx
    cases hx
    cases hc

theorem BufV.grown {row : Option Nat} {B : Nat} (h : BufV e sz w0 w L v n cs) (hg : w.grownBy w1 row) (hr : ∀ r, row = some r → B ≤ r ∧ ∃ x : Obj, w.heap[r]? = some x ∧ x.isCells = false) (hB : w0.heap.size ≤ B) : BufV e sz w0 w1 L v n cs := by
  obtain ⟨Lv, h1, h2, h3⟩ := h
  exact ⟨Lv, h1, h2.grown hg hr hB, h3⟩

theorem keeps_setRow {g : Nat} {c c' : Array Value} {T : TypeId} {fr : Nat × Nat} (h : w.heap[g]? = some (.cells c T fr)) : KeepsOthers w (w.setRow g c') :=
  ⟨by simp, fun k x hk hx => by
    by_cases hkg : k = g
    · subst hkg
      rw [h] at hk
      cases hk
      cases hx
    · rw [setRow_other w g k _ hkg]; exact hk⟩

theorem keeps_newobj (x : Obj) : KeepsOthers w (w.drew.alloc x) :=
  ⟨by show w.heap.size ≤ (w.heap.push x).size; rw [Array.size_push]; omega, fun k y hk _ => (Below.heap_alloc w.drew x k (Array.getElem?_eq_some_iff.1 hk).1).trans hk⟩

/-- append onto a slice of one's own keeps what is no cells -/
theorem append_keeps (E : BufV e sz w0 w L v n cs) {by_ : Nat} (he : Elem P e sz by_) {s x : Operand} {t : TypeId} (ho : o.op = .call { callee := .builtin .append, args := #[s, x], argTypes := #[t, t] })
    (ht : P.underlying t = some (.slice e)) (hs : a.eval s = v) (hx : a.eval x = xv) {m : Nat} {ds : List Value} (hsrc : SlAt w xv m ds) (hyl : ds.length = m * sz) (h1 : ∀ d ∈ ds, d.oneCell' = true) (hbytes : (n + m) * by_ ≤ 140737488355328) (h63 : n + m ≤ 140737488355328) :
    ∃ v' w2, (execOp a.eval o).run P w = .ok (.value v') w2 ∧ KeepsOthers w w2 := by
  obtain ⟨⟨i, z, hi, hz, rfl, rfl, hzs⟩, hpos⟩ := he
  obtain ⟨dst, op, ty, pos, aft, guard⟩ := o
  simp only at ho
  subst ho
  have hrun : ∀ r, (Builtin.append_ #[t, t] ty #[v, xv]).run P w = r → (execOp a.eval ⟨dst, .call { callee := .builtin .append, args := #[s, x], argTypes := #[t, t] }, ty, pos, aft, guard⟩).run P w = r.andThen fun v w => .ok (.value v) w := by
    intro r hr
    have e1 : execOp a.eval ⟨dst, .call { callee := .builtin .append, args := #[s, x], argTypes := #[t, t] }, ty, pos, aft, guard⟩ = builtin .append #[t, t] ty ((#[s, x] : Array Operand).map fun | .const _ => true | _ => false) ((#[s, x] : Array Operand).map a.eval) := rfl
    rw [e1]
    simp only [List.map_toArray, List.map_cons, List.map_nil, hs, hx, builtin, Sem.run_bind, hr]
    cases r <;> rfl
  have hrefl : KeepsOthers w w := KeepsOthers.refl w
  obtain ⟨Lv, ⟨hxl, ⟨rfl, h2, rfl⟩ | ⟨g, cap, cs0, rfl, rfl, hn, hcap, hc, htk⟩⟩, H, hd⟩ := E
  · subst h2
    rcases hsrc with ⟨⟨p, rfl⟩, h0, _⟩ | ⟨b, off, c, rfl, _, hcell⟩
    · refine ⟨.slice none 0 0, w, ?_, hrefl⟩
      rw [hrun (.ok (.slice none 0 0) w)]
      · rfl
      · cases p <;> simp [Builtin.append_, run_underlying ht, sizeOf, typeInfo, hi, Builtin.lenOf, Builtin.firstCells, loadCells, loadCellsFrom]
    · by_cases hm0 : m = 0
      · refine ⟨.slice none 0 0, w, ?_, hrefl⟩
        rw [hrun (.ok (.slice none 0 0) w)]
        · rfl
        · rw [hm0]; simp [Builtin.append_, run_underlying ht, sizeOf, typeInfo, hi, Builtin.lenOf, Builtin.firstCells, loadCells, loadCellsFrom]
      · have hr := run_append_nil (P := P) w t ty e i z ht hi hz ⟨b, off, none⟩ m c ds hyl (fun j v hv => by rw [add_plain]; exact hcell j v hv) (by omega) (by omega) (by simp only [Nat.zero_add] at hbytes; omega)
        exact ⟨_, _, hrun _ hr, keeps_newobj _⟩
  · have hcell0 : ∀ j v, cs[j]? = some v → w.cell? ((⟨g, 0, none⟩ : Addr).add j) = some v := by
      intro j v hv
      rw [add_plain, Nat.zero_add, H.cell (cs := cs0) (T := e) (by simp)]
      rw [← htk, List.getElem?_take] at hv
      split at hv
      · exact hv
      · cases hv
    rcases hsrc with ⟨⟨p, rfl⟩, h0, _⟩ | ⟨b, off, c, rfl, _, hcell⟩
    · subst h0
      refine ⟨.slice (some ⟨g, 0, none⟩) n cap, w, ?_, hrefl⟩
      rw [hrun (.ok (.slice (some ⟨g, 0, none⟩) n cap) w)]
      · rfl
      · cases p <;> simp [Builtin.append_, run_underlying ht, sizeOf, typeInfo, hi, Builtin.lenOf, Builtin.firstCells, hn, storeCells, loadCells, loadCellsFrom]
    · by_cases hroom : n + m ≤ cap
      · have hfit : n * i.size + ds.length ≤ cs0.length := by rw [hyl, hc, ← Nat.add_mul]; exact Nat.mul_le_mul_right _ hroom
        have hb := H.here g cs0 e (by simp)
        have hr := run_append_room (P := P) w t ty e i ht hi g n cap cs0.toArray hb ⟨b, off, none⟩ m c ds hyl (fun j v hv => by rw [add_plain]; exact hcell j v hv) h1 hroom (by simpa using hfit)
        exact ⟨_, _, hrun _ hr, keeps_setRow hb⟩
      · have hr := run_append_grow (P := P) w t ty e i z ht hi hz ⟨g, 0, none⟩ n cap cs hxl hcell0 ⟨b, off, none⟩ m c ds hyl (fun j v hv => by rw [add_plain]; exact hcell j v hv) (by omega) (by omega) (growslice_fits (by omega) hbytes)
        exact ⟨_, _, hrun _ hr, keeps_newobj _⟩

/-- append to it; what is no cells lies as it lay -/
theorem st_appVK (hg : o.guard = none) (E : BufV e sz w0 w L v n cs) {by_ : Nat} (he : Elem P e sz by_) {s x : Operand} {t : TypeId} (ho : o.op = .call { callee := .builtin .append, args := #[s, x], argTypes := #[t, t] })
    (ht : P.underlying t = some (.slice e)) (hs : a.eval s = v) (hx : a.eval x = xv) {m : Nat} {ds : List Value} (hsrc : SlAt w xv m ds) (hl : ds.length = m * sz) (h1 : ∀ d ∈ ds, d.oneCell' = true) (hb : (n + m) * by_ ≤ 140737488355328) (h63 : n + m ≤ 140737488355328)
    (h : ∀ p c w', BufV e sz w0 w' L (.slice p (n + m) c) (n + m) (cs ++ ds) → KeepsOthers w w' → wpList P ops Q rest (a.put o.dst (.slice p (n + m) c)) w') : wpList P ops Q (o :: rest) a w := by
  obtain ⟨v1, w2, hr, hk⟩ := append_keeps E he ho ht hs hx hsrc hl h1 hb h63
  obtain ⟨Lv, hsl, h2, h3⟩ := E
  obtain ⟨v', w', Lv', hrun, f1, f2, f3⟩ := rn_append he h2 ho ht hs hx hsl hsrc hl h1 hb h63 h3
  rw [hr] at hrun
  cases hrun
  have B : BufV e sz w0 w2 L v1 (n + m) (cs ++ ds) := ⟨Lv', f1, f2, f3⟩
  obtain ⟨p, c, rfl⟩ := B.slice
  exact wpList_plain hg fun K hK => by unfold Oper.wp; rw [hr, Oper.upon_value]; exact hK _ _ (h p c w2 B hk)

/-- a store of one cell into a block beside the buffer -/
theorem st_bufSetVK (hg : o.guard = none) {b : Nat} {xs : List Value} {T : TypeId} (E : BufV e sz w0 w ((b, xs, T) :: L) v n cs) {ty : TypeId} {x y : Operand} (ho : o.op = .store ty x y) {i : Nat} (hx : a.eval x = .pointer (some ⟨b, i, none⟩)) {u : Value} (hy : a.eval y = u)
    (hs : (P.info? ty).map (·.size) = some 1) (hi : i < xs.length) (h1 : u.oneCell' = true)
    (h : ∀ w', BufV e sz w0 w' ((b, xs.set i u, T) :: L) v n cs → KeepsOthers w w' → wpList P ops Q rest (a.put o.dst undef) w') : wpList P ops Q (o :: rest) a w := by
  obtain ⟨Lv, hsl, H, hf⟩ := E
  obtain ⟨w1, hr, h2⟩ := rn_store (L' := Lv ++ (b, xs.set i u, T) :: L) H ho hx hy hs (At.right At.head) hi h1
  have hb := H.here b xs T (by simp)
  obtain ⟨w2, hr2, h3⟩ := rn_store (L' := [(b, xs.set i u, T)]) (Own.one hb) ho hx hy hs At.head hi h1
  rw [hr] at hr2
  cases hr2
  have hk : KeepsOthers w w1 := keeps_of_own h3 (fun k hk y hy => by
    simp at hk; subst hk
    rw [hb] at hy; cases hy; rfl)
  exact wpList_plain hg fun K hK => by unfold Oper.wp; rw [hr, Oper.upon_skip]; exact hK _ _ (h w1 ⟨Lv, hsl, h2, hf⟩ hk)
end
end Go.Proofs.Ytjcnhpnadfhjaaa
