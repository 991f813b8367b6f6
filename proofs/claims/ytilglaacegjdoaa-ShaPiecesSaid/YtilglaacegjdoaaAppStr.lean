/- 'append(b, s...)' of a string's bytes. No dump, no condition. -/
import Derived.Test.YtilglaacegjdoaaAppG
import Derived.Lib.AppendStr
namespace Go.Proofs.Ytilglaacegjdoaa
open Go.RowKit Go.Lib

theorem strCells_nums (s : ByteArray) : strCells s = ints .u8 (numsOf s) := by
  unfold strCells ints numsOf
  rw [List.map_map]
  rfl

section
variable {P : Program} {ops : Array Oper} {rest : List Oper} {o : Oper} {a : Act} {w w1 : World} {e : TypeId} {k : IntKind} {v xv : Value} {xs ys : List Int}

theorem fresh_buf (Hw : Own w w1 []) {n old : Nat} (hn : n = xs.length) {z : Value} (hz1 : z.cells.size = 1) {arr : Array Value} (harr : arr.toList = ints k xs ++ (Builtin.zeroCells z.cells (grownCap w1 n old e - n)).toList) (h63 : n ≤ 140737488355328) :
    Buf e k w (w1.drew.alloc (.cells arr e)) [] (.slice (some ⟨w1.heap.size, 0, none⟩) n (grownCap w1 n old e)) xs := by
  have hge := grownCap_ge w1 n old e
  have hle := grownCap_le_maxLen w1 n old e (Nat.le_trans h63 (by decide))
  generalize grownCap w1 n old e = cp at *
  subst hn
  have hz0 : (Builtin.zeroCells z.cells (cp - xs.length)).toList.length = cp - xs.length := by rw [Array.length_toList, size_zeroCells, hz1, Nat.mul_one]
  have h2 := Hw.drew.alloc arr.toList e
  rw [show arr.toList.toArray = arr by simp] at h2
  refine ⟨[(w1.heap.size, arr.toList, e)], ⟨by simp, Or.inr ⟨_, _, _, rfl, rfl, hge, hle, ?_, ?_⟩⟩, h2, ?_⟩
  · rw [harr, List.length_append, hz0, length_ints]; omega
  · rw [harr, Nat.mul_one]
    exact List.take_left' (length_ints _ _)
  · intro j hj
    simp at hj
    have := Hw.size
    omega

/-- append of a string's bytes -/
theorem append_str (E : Buf e .u8 w w1 [] v xs) (he : Elem P e 1 1) {s x : Operand} {t u : TypeId} (ho : o.op = .call { callee := .builtin .append, args := #[s, x], argTypes := #[t, u] })
    (ht : P.underlying t = some (.slice e)) (hu : P.underlying u = some .string) (hs : a.eval s = v) {b : ByteArray} (hx : a.eval x = .string b) (h0 : 0 < b.size) (h63 : xs.length + b.size ≤ 140737488355328) :
    YieldsTo P o a w1 (fun v' w2 => Gr w.heap.size xs.length w1 w2 ∧ Buf e .u8 w w2 [] v' (xs ++ numsOf b)) := by
  obtain ⟨⟨i, z, hi, hz, hsz, hby, hzs⟩, hpos⟩ := he
  obtain ⟨dst, op, ty, pos, aft, guard⟩ := o
  simp only at ho
  subst ho
  have hrun : ∀ r, (Builtin.append_ #[t, u] ty #[v, .string b]).run P w1 = r → (execOp a.eval ⟨dst, .call { callee := .builtin .append, args := #[s, x], argTypes := #[t, u] }, ty, pos, aft, guard⟩).run P w1 = r.andThen fun v w => .ok (.value v) w := by
    intro r hr
    have e1 : execOp a.eval ⟨dst, .call { callee := .builtin .append, args := #[s, x], argTypes := #[t, u] }, ty, pos, aft, guard⟩ = builtin .append #[t, u] ty ((#[s, x] : Array Operand).map fun | .const _ => true | _ => false) ((#[s, x] : Array Operand).map a.eval) := rfl
    rw [e1]
    simp only [List.map_toArray, List.map_cons, List.map_nil, hs, hx, builtin, Sem.run_bind, hr]
    cases r <;> rfl
  have hlen : (xs ++ numsOf b).length = xs.length + b.size := by rw [List.length_append, length_numsOf]
  have hb0 : Own w w1 [] := by obtain ⟨Lv, _, h2, h3⟩ := E; exact h2.drop h3
  obtain ⟨Lv, ⟨hxl, ⟨rfl, h2, rfl⟩ | ⟨g, cap, cs, rfl, rfl, hn, hcap, hc, htk⟩⟩, H, hd⟩ := E
  · have hx0 : xs = [] := List.eq_nil_of_length_eq_zero h2
    subst hx0
    have hr := run_append_nil_string (P := P) w1 t u ty e i z ht hu hi hz b h0 (by simp at h63; omega) (by rw [hby]; simp at h63; omega)
    refine yieldsTo_val' (hrun _ hr) ⟨Or.inl (Own.newobj w1 _), ?_⟩
    refine fresh_buf hb0 (by rw [hlen]; simp) hzs ?_ (by simp at h63; omega)
    rw [List.nil_append, ← strCells_nums, Array.toList_append]
    simp [strCells]
  · by_cases hroom : xs.length + b.size ≤ cap
    · have hb := H.here g cs e (by simp)
      have hr := run_append_room_string (P := P) w1 t u ty e i ht hu hi hsz g xs.length cap cs.toArray hb b hroom (by simp; omega)
      have h2 := (Own.one hb).set (At.head (L := []) (cs' := cs.take xs.length ++ strCells b ++ cs.drop (xs.length + b.size)))
      have h3 := H.set (At.left (At.head (L := []) (cs' := cs.take xs.length ++ strCells b ++ cs.drop (xs.length + b.size))) (M := []))
      have hl2 : (cs.take xs.length ++ strCells b ++ cs.drop (xs.length + b.size)).length = cs.length := by
        simp only [List.length_append, List.length_take, List.length_drop, strCells_length]; omega
      refine yieldsTo_val' (hrun _ hr) ⟨Or.inr ⟨g, cs, cs.take xs.length ++ strCells b ++ cs.drop (xs.length + b.size), e, hd g (by simp), hb, by simpa using h2, hl2, ?_⟩, ?_⟩
      · rw [List.append_assoc, List.take_append_of_le_length (by simp; omega), List.take_take, Nat.min_self]
      · refine ⟨[(g, cs.take xs.length ++ strCells b ++ cs.drop (xs.length + b.size), e)], ⟨by simp, Or.inr ⟨g, cap, _, by rw [hlen], rfl, by rw [hlen]; exact hroom, hcap, by rw [hl2]; exact hc, ?_⟩⟩, by simpa using h3, hd⟩
        rw [hlen, Nat.mul_one, List.take_left' (by simp only [List.length_append, List.length_take, strCells_length]; omega), ints_append, ← strCells_nums]
        rw [Nat.mul_one] at htk
        rw [htk]
    · have hcell0 : ∀ j v, (ints .u8 xs)[j]? = some v → w1.cell? ((⟨g, 0, none⟩ : Addr).add j) = some v := by
        intro j v hv
        rw [add_plain, Nat.zero_add, H.cell (cs := cs) (T := e) (by simp)]
        rw [← htk, List.getElem?_take] at hv
        split at hv
        · exact hv
        · cases hv
      have hr := run_append_grow_string (P := P) w1 t u ty e i z ht hu hi hz ⟨g, 0, none⟩ xs.length cap (ints .u8 xs) (by rw [hsz]; simp) hcell0 b (by omega) (by omega) (growslice_fits (by omega) (by rw [hby]; omega))
      refine yieldsTo_val' (hrun _ hr) ⟨Or.inl (Own.newobj w1 _), ?_⟩
      refine fresh_buf hb0 hlen.symm hzs ?_ h63
      rw [ints_append, ← strCells_nums]
      simp
end
end Go.Proofs.Ytilglaacegjdoaa
