/- A slice that a call grows by append, of whatever elements; blocks beside it that are stored into. No dump, no condition. -/
import Derived.Test.YtjcnhpnadfhjaaaDigE
namespace Go.Proofs.Ytjcnhpnadfhjaaa
open Go.RowKit

section
variable {P : Program} {ops : Array Oper} {rest : List Oper} {o : Oper} {a : Act} {w w0 : World} {Q : Exit → Act → World → Prop} {L L' : List Ent} {e : TypeId} {k : IntKind} {v xv : Value} {xs ys : List Int}

/-- a store of one cell into a block beside the buffer -/
theorem st_bufSet (hg : o.guard = none) {b : Nat} {cs : List Value} {T : TypeId} (E : Buf e k w0 w ((b, cs, T) :: L) v xs) {ty : TypeId} {x y : Operand} (ho : o.op = .store ty x y) {i : Nat} (hx : a.eval x = .pointer (some ⟨b, i, none⟩)) {u : Value} (hy : a.eval y = u)
    (hs : (P.info? ty).map (·.size) = some 1) (hi : i < cs.length) (h1 : u.oneCell' = true)
    (h : ∀ w', Buf e k w0 w' ((b, cs.set i u, T) :: L) v xs → wpList P ops Q rest (a.put o.dst undef) w') : wpList P ops Q (o :: rest) a w := by
  obtain ⟨Lv, hsl, H, hf⟩ := E
  refine st_skip hg (rn_store H ho hx hy hs (At.right At.head) hi h1) fun w' H' => h w' ⟨Lv, hsl, H', hf⟩

/-- a slice of the call's own -/
def BufV (e : TypeId) (sz : Nat) (w0 w : World) (L : List Ent) (v : Value) (n : Nat) (xs : List Value) : Prop :=
  ∃ Lv, SlOwn e sz v n xs Lv ∧ Own w0 w (Lv ++ L) ∧ ∀ j ∈ Lv.map (·.1), w0.heap.size ≤ j

variable {sz n : Nat} {cs : List Value}

theorem BufV.slice (h : BufV e sz w0 w L v n cs) : ∃ p c, v = .slice p n c := by
  obtain ⟨Lv, ⟨_, ⟨rfl, h2, _⟩ | ⟨g, cap, cs, rfl, _⟩⟩, _⟩ := h
  · exact ⟨none, 0, by rw [h2]⟩
  · exact ⟨_, _, rfl⟩
theorem BufV.nil (H : Own w0 w L) : BufV e sz w0 w L (.slice none 0 0) 0 [] := ⟨[], SlOwn.nil e sz, H, by simp⟩
theorem BufV.slAt (h : BufV e sz w0 w L v n cs) : SlAt w v n cs := by
  obtain ⟨Lv, h1, h2, _⟩ := h
  exact h1.slAt h2
theorem BufV.own0 (h : BufV e sz w0 w L v n cs) : Own w0 w L := by
  obtain ⟨Lv, _, h2, h3⟩ := h
  exact h2.drop h3
theorem BufV.lt (h : BufV e sz w0 w L v n cs) : ∀ j, blk v = some j → j < w.heap.size := by
  obtain ⟨Lv, ⟨_, ⟨rfl, _, _⟩ | ⟨g, cap, cs, rfl, rfl, _⟩⟩, h2, _⟩ := h
  · intro j hj; cases hj
  · intro j hj
    obtain rfl : g = j := (blk_some hj).1
    exact h2.lt (cs := cs) (T := e) (by simp)
theorem BufV.call0 {w' : World} (h : BufV e sz w0 w L v n cs) (hu : Own w w' []) : BufV e sz w0 w' L v n cs := by
  obtain ⟨Lv, h1, h2, h3⟩ := h
  exact ⟨Lv, h1, h2.call0 hu, h3⟩
theorem BufV.pop {b : Nat} {xs' : List Value} {T : TypeId} (h : BufV e sz w0 w ((b, xs', T) :: L) v n cs) (hb : w0.heap.size ≤ b) : BufV e sz w0 w L v n cs := by
  obtain ⟨Lv, h1, h2, h3⟩ := h
  exact ⟨Lv, h1, Own.drop (L1 := [(b, xs', T)]) (h2.perm List.perm_middle) (by simpa using hb), h3⟩
theorem BufV.litAt {b m : Nat} {xs' : List Value} {T : TypeId} (h : BufV e sz w0 w L v n cs) (hm : (b, xs', T) ∈ L) (hn : m = 0 → xs' = []) : SlAt w (.slice (some ⟨b, 0, none⟩) m m) m xs' := by
  obtain ⟨Lv, _, h2, _⟩ := h
  exact Or.inr ⟨b, 0, m, rfl, ⟨Nat.le_refl _, hn⟩, fun i x hx => by rw [h2.cell (List.mem_append_right _ hm), Nat.zero_add]; exact hx⟩

/-- append to it -/
theorem st_appV (hg : o.guard = none) (E : BufV e sz w0 w L v n cs) {by_ : Nat} (he : Elem P e sz by_) {s x : Operand} {t : TypeId} (ho : o.op = .call { callee := .builtin .append, args := #[s, x], argTypes := #[t, t] })
    (ht : P.underlying t = some (.slice e)) (hs : a.eval s = v) (hx : a.eval x = xv) {m : Nat} {ds : List Value} (hsrc : SlAt w xv m ds) (hl : ds.length = m * sz) (h1 : ∀ d ∈ ds, d.oneCell' = true) (hb : (n + m) * by_ ≤ 140737488355328) (h63 : n + m ≤ 140737488355328)
    (h : ∀ p c w', BufV e sz w0 w' L (.slice p (n + m) c) (n + m) (cs ++ ds) → wpList P ops Q rest (a.put o.dst (.slice p (n + m) c)) w') : wpList P ops Q (o :: rest) a w := by
  obtain ⟨Lv, hsl, h2, h3⟩ := E
  obtain ⟨v', w', Lv', hrun, f1, f2, f3⟩ := rn_append he h2 ho ht hs hx hsl hsrc hl h1 hb h63 h3
  have B : BufV e sz w0 w' L v' (n + m) (cs ++ ds) := ⟨Lv', f1, f2, f3⟩
  obtain ⟨p, c, rfl⟩ := B.slice
  exact wpList_plain hg fun K hK => by unfold Oper.wp; rw [hrun, Oper.upon_value]; exact hK _ _ (h p c w' B)

/-- a literal beside it -/
theorem st_litV (hg : o.guard = none) (E : BufV e sz w0 w L v n cs) {t el : TypeId} {len : Nat} {parts : Array (Nat × Operand)} (ho : o.op = .buildSlice t len parts) {ds : List Value}
    (hf : ∀ w', (Instr.buildSlice t len (parts.map fun (i, x) => (i, a.eval x))).run P w' = .ok (.slice (some ⟨w'.heap.size, 0, none⟩) len len) (w'.alloc (.cells ds.toArray el)))
    (h : ∀ n' w', w0.heap.size ≤ n' → BufV e sz w0 w' ((n', ds, el) :: L) v n cs → wpList P ops Q rest (a.put o.dst (.slice (some ⟨n', 0, none⟩) len len)) w') : wpList P ops Q (o :: rest) a w := by
  obtain ⟨Lv, hsl, H, hd⟩ := E
  have B : BufV e sz w0 (w.alloc (.cells ds.toArray el)) ((w.heap.size, ds, el) :: L) v n cs := ⟨Lv, hsl, (H.alloc ds el).perm List.perm_middle.symm, hd⟩
  have hrun : (execOp a.eval o).run P w = .ok (.value (.slice (some ⟨w.heap.size, 0, none⟩) len len)) (w.alloc (.cells ds.toArray el)) := by
    unfold execOp
    simp only [ho, Sem.run_bind, hf w, Result.andThen_ok]
    rfl
  exact wpList_plain hg fun K hK => by unfold Oper.wp; rw [hrun, Oper.upon_value]; exact hK _ _ (h _ _ H.size B)

end

/-- the bytes of a number, the greatest first -/
def numB (x : Int) (m : Nat) : List Int := (List.range m).map fun j => x / 2 ^ (8 * (m - 1 - j)) % 256

theorem length_numB (x : Int) (m : Nat) : (numB x m).length = m := by simp [numB]
theorem numB_step {x : Int} {m i : Nat} (h : i < m) : (numB x m).take (m - (i + 1)) ++ [x / 2 ^ (8 * i) % 256] = (numB x m).take (m - i) := by
  have hlt : m - (i + 1) < (numB x m).length := by rw [length_numB]; omega
  rw [show m - i = m - (i + 1) + 1 by omega, List.take_succ_eq_append_getElem hlt]
  congr 2
  simp only [numB, List.getElem_map, List.getElem_range]
  rw [show m - 1 - (m - (i + 1)) = i by omega]

end Go.Proofs.Ytjcnhpnadfhjaaa
