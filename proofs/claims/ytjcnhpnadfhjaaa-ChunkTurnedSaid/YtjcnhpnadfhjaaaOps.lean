/- More operations over what a call owns: slices of arrays, copy, append, slice literals. No dump, no condition. -/
import Derived.Test.YtjcnhpnadfhjaaaMem
import Derived.Laws.Append
import Derived.Laws.AppendOwn
import Derived.Test.YtjcnhpnadfhjaaaReg
namespace Go.Proofs.Ytjcnhpnadfhjaaa
open Go.RowKit

section
variable {P : Program} {ops : Array Oper} {rest : List Oper} {o : Oper} {a : Act} {w w0 : World} {Q : Exit → Act → World → Prop} {L L' : List Ent}

/-- What is known of an element's type. -/
structure Elem (P : Program) (e sz by_ : Nat) : Prop where
  ex : ∃ i z, P.info? e = some i ∧ i.zero = some z ∧ i.size = sz ∧ i.bytes = by_ ∧ z.cells.size = sz
  pos : 0 < sz

theorem Elem.of {e sz by_ : Nat} (h : ((P.info? e).bind fun i => i.zero.map fun z => (i.size, i.bytes, z.cells.size)) = some (sz, by_, sz)) (hp : 0 < sz) : Elem P e sz by_ := by
  cases hi : P.info? e with
  | none => simp [hi] at h
  | some i =>
    cases hz : i.zero with
    | none => simp [hi, hz] at h
    | some z =>
      simp [hi, hz] at h
      exact ⟨⟨i, z, hi, hz, h.1, h.2.1, h.2.2⟩, hp⟩

theorem Elem.size {e sz by_ : Nat} (h : Elem P e sz by_) : (P.info? e).map (·.size) = some sz := by
  obtain ⟨⟨i, z, hi, _, hs, _⟩, _⟩ := h
  simp [hi, hs]

/-- a bound of a slice expression, where it is named and where it is not -/
inductive BoundIs : Option Value → Nat → Nat → Prop
  | no (d : Nat) : BoundIs none d d
  | yes {k : IntKind} {j : Int} {d l : Nat} (h : j = (l : Int)) : BoundIs (some (.int k j)) d l

theorem BoundIs.is {y : Option Value} {v : Value} {k : IntKind} {j : Int} {d l : Nat} (hy : y = some v) (hv : v = .int k j) (h : j = (l : Int)) : BoundIs y d l := by
  subst hy hv; exact .yes h

/-- x[lo:hi] of an array behind a pointer, both bounds given as numbers (lo 0 where none is named) -/
theorem rn_sliceArr {t : TypeId} {x : Operand} {lo hi : Option Operand} (ho : o.op = .slice t x lo hi none) {n e sz : Nat} (hu : P.underlying t = some (.array n e)) (hs : (P.info? e).map (·.size) = some sz) {b i : Nat} (hx : a.eval x = .pointer (some ⟨b, i, none⟩))
    {l h : Nat} (hl : BoundIs (lo.map a.eval) 0 l) (hh : BoundIs (hi.map a.eval) n h) (h1 : l ≤ h) (h2 : h ≤ n) :
    (execOp a.eval o).run P w = .ok (.value (.slice (some ⟨b, if n = l then i else i + l * sz, none⟩) (h - l) (n - l))) w := by
  unfold execOp
  simp only [ho]
  generalize lo.map a.eval = lov at hl ⊢
  generalize hi.map a.eval = hiv at hh ⊢
  cases hl with
  | no =>
    cases hh with
    | no => simp [hx, Instr.sliceAt, Sem.run_bind, run_underlying hu, Instr.sliceBounds, Instr.sureAddr, run_sizeOf hs, add_plain]
    | yes h' =>
      subst h'
      simp [hx, Instr.sliceAt, Sem.run_bind, run_underlying hu, Instr.sliceBounds, Instr.sliceBound, asIntOf, Instr.sureAddr, run_sizeOf hs, add_plain, h2]
  | yes h' =>
    subst h'
    cases hh with
    | no =>
      simp [hx, Instr.sliceAt, Sem.run_bind, run_underlying hu, Instr.sliceBounds, Instr.sliceBound, asIntOf, Instr.sureAddr, run_sizeOf hs, add_plain, h1]
      split <;> rfl
    | yes h'' =>
      subst h''
      simp [hx, Instr.sliceAt, Sem.run_bind, run_underlying hu, Instr.sliceBounds, Instr.sliceBound, asIntOf, Instr.sureAddr, run_sizeOf hs, add_plain, h1, h2]
      split <;> rfl

theorem run_firstCells_slAt {v : Value} {n m : Nat} {xs : List Value} (h : SlAt w v n xs) (hxl : xs.length = n) (hm : m ≤ n) : (Builtin.firstCells 1 m v).run P w = .ok (xs.take m).toArray w := by
  rcases h with ⟨⟨p, rfl⟩, rfl, rfl⟩ | ⟨b, off, cap, rfl, _, hc⟩
  · obtain rfl : m = 0 := by omega
    cases p <;> simp [Builtin.firstCells, loadCells, loadCellsFrom]
  · have hl := run_loadCells_list (P := P) w ⟨b, off, none⟩ (xs.take m) (fun j u hu => by
      rw [add_plain]
      rw [List.getElem?_take] at hu
      split at hu
      · exact hc j u hu
      · cases hu)
    have hlen : (xs.take m).length = m := by simp; omega
    rw [hlen] at hl
    simp [Builtin.firstCells, hl]

/-- x[:] of an array behind a pointer -/
theorem rn_sliceAll {t : TypeId} {x : Operand} (ho : o.op = .slice t x none none none) {n e sz : Nat} (hu : P.underlying t = some (.array n e)) (hs : (P.info? e).map (·.size) = some sz) {b i : Nat} (hx : a.eval x = .pointer (some ⟨b, i, none⟩)) (hn : 0 < n) :
    (execOp a.eval o).run P w = .ok (.value (.slice (some ⟨b, i, none⟩) n n)) w := by
  have h := rn_sliceArr (w := w) ho hu hs hx (by exact .no _) (by exact .no _) (Nat.zero_le n) (Nat.le_refl n)
  rw [if_neg (by omega)] at h
  simpa using h

/-- copy into a row that is owned, from whatever slice of one-cell elements -/
theorem rn_copy (H : Own w0 w L) {d s : Operand} {dT sT : TypeId} (ho : o.op = .call { callee := .builtin .copy, args := #[d, s], argTypes := #[dT, sT] }) {e : TypeId} (hu : P.underlying dT = some (.slice e)) (hsz : (P.info? e).map (·.size) = some 1)
    {b off dl dc : Nat} (hd : a.eval d = .slice (some ⟨b, off, none⟩) dl dc) {sv : Value} (hsv : a.eval s = sv) {sl : Nat} {xs : List Value} (hs : SlAt w sv sl xs) (hxl : xs.length = sl)
    {cs : List Value} {T : TypeId} (hm : At L b cs T (splice cs off (xs.take dl)) L') (hfit : off + Nat.min sl dl ≤ cs.length) (h1 : ∀ v ∈ xs, v.oneCell' = true) {k : Nat} (hk : Nat.min sl dl = k) :
    ∃ w', (execOp a.eval o).run P w = .ok (.value (.int .i64 k)) w' ∧ Own w0 w' L' := by
  subst hk
  have hmin : Nat.min sl dl ≤ sl := Nat.min_le_left _ _
  have htk : xs.take (Nat.min sl dl) = xs.take dl := by
    rw [List.take_eq_take_iff, hxl]
    simp only [Nat.min_def]; repeat' split
    all_goals omega
  have hlen : (xs.take dl).length = Nat.min sl dl := by rw [List.length_take, hxl, Nat.min_comm]
  obtain ⟨w', hr, ho'⟩ := H.putCells (P := P) hm (by rw [hlen]; exact hfit) (fun v hv => h1 v (List.mem_of_mem_take hv))
  have hf := run_firstCells_slAt (P := P) hs hxl hmin
  rw [htk] at hf
  have hlo : (Builtin.lenOf sv).run P w = .ok sl w := by
    rcases hs with ⟨⟨p, rfl⟩, rfl, _⟩ | ⟨b', off', cap', rfl, _⟩ <;> rfl
  refine ⟨w', ?_, ho'⟩
  obtain ⟨dst, op, ty, pos, aft, guard⟩ := o
  simp only at ho
  subst ho
  have e1 : execOp a.eval ⟨dst, .call { callee := .builtin .copy, args := #[d, s], argTypes := #[dT, sT] }, ty, pos, aft, guard⟩ = builtin .copy #[dT, sT] ty ((#[d, s] : Array Operand).map fun | .const _ => true | _ => false) ((#[d, s] : Array Operand).map a.eval) := rfl
  rw [e1]
  simp only [List.map_toArray, List.map_cons, List.map_nil, hd, hsv]
  simp [builtin, Builtin.copy_, Sem.run_bind, run_underlying hu, hlo, run_sizeOf hsz, hf, hr, goInt]

/-- a slice that is owned: nothing, or a block of its own -/
def SlOwn (e sz : Nat) (v : Value) (n : Nat) (xs : List Value) (Lv : List Ent) : Prop :=
  xs.length = n * sz ∧ ((v = .slice none 0 0 ∧ n = 0 ∧ Lv = []) ∨
  ∃ g cap cs, v = .slice (some ⟨g, 0, none⟩) n cap ∧ Lv = [(g, cs, e)] ∧ n ≤ cap ∧ cap ≤ maxLen ∧ cs.length = cap * sz ∧ cs.take (n * sz) = xs)

theorem SlOwn.nil (e sz : Nat) : SlOwn e sz (.slice none 0 0) 0 [] [] := ⟨by simp, Or.inl ⟨rfl, rfl, rfl⟩⟩

theorem SlOwn.slAt {e sz : Nat} {v : Value} {n : Nat} {xs : List Value} {Lv L : List Ent} (h : SlOwn e sz v n xs Lv) (H : Own w0 w (Lv ++ L)) : SlAt w v n xs := by
  obtain ⟨hl, h⟩ := h
  rcases h with ⟨rfl, rfl, rfl⟩ | ⟨g, cap, cs, rfl, rfl, hn, hm, hc, ht⟩
  · exact Or.inl ⟨⟨_, rfl⟩, rfl, by simpa using hl⟩
  · refine Or.inr ⟨g, 0, cap, rfl, ⟨hn, fun h => List.eq_nil_of_length_eq_zero (by rw [hl, h, Nat.zero_mul])⟩, fun i x hx => ?_⟩
    rw [H.cell (cs := cs) (T := e) (by simp), Nat.zero_add]
    rw [← ht, List.getElem?_take] at hx
    split at hx
    · exact hx
    · cases hx

/-- append of what a slice reads as onto an owned one -/
theorem rn_append {e sz by_ : Nat} (he : Elem P e sz by_) {Lv : List Ent} (H : Own w0 w (Lv ++ L)) {s x : Operand} {t : TypeId} (ho : o.op = .call { callee := .builtin .append, args := #[s, x], argTypes := #[t, t] })
    (ht : P.underlying t = some (.slice e)) {sv xv : Value} (hs : a.eval s = sv) (hx : a.eval x = xv) {n m : Nat} {xs ys : List Value} (hown : SlOwn e sz sv n xs Lv) (hsrc : SlAt w xv m ys) (hyl : ys.length = m * sz)
    (h1 : ∀ v ∈ ys, v.oneCell' = true) (hbytes : (n + m) * by_ ≤ 140737488355328) (h63 : n + m ≤ 140737488355328) (hd : ∀ k ∈ Lv.map (·.1), w0.heap.size ≤ k) :
    ∃ v' w' Lv', (execOp a.eval o).run P w = .ok (.value v') w' ∧ SlOwn e sz v' (n + m) (xs ++ ys) Lv' ∧ Own w0 w' (Lv' ++ L) ∧ (∀ k ∈ Lv'.map (·.1), w0.heap.size ≤ k) := by
  obtain ⟨⟨i, z, hi, hz, rfl, rfl, hzs⟩, hpos⟩ := he
  obtain ⟨dst, op, ty, pos, aft, guard⟩ := o
  simp only at ho
  subst ho
  have hrun : ∀ r, (Builtin.append_ #[t, t] ty #[sv, xv]).run P w = r → (execOp a.eval ⟨dst, .call { callee := .builtin .append, args := #[s, x], argTypes := #[t, t] }, ty, pos, aft, guard⟩).run P w = r.andThen fun v w => .ok (.value v) w := by
    intro r hr
    have e1 : execOp a.eval ⟨dst, .call { callee := .builtin .append, args := #[s, x], argTypes := #[t, t] }, ty, pos, aft, guard⟩ = builtin .append #[t, t] ty ((#[s, x] : Array Operand).map fun | .const _ => true | _ => false) ((#[s, x] : Array Operand).map a.eval) := rfl
    rw [e1]
    simp only [List.map_toArray, List.map_cons, List.map_nil, hs, hx, builtin, Sem.run_bind, hr]
    cases r <;> rfl
  have hmaxl : (140737488355328 : Nat) ≤ maxLen := by decide
  have hcapL : ∀ old, grownCap w (n + m) old e ≤ maxLen := fun old => grownCap_le_maxLen w (n + m) old e (by omega)
  have hcapG : ∀ old, n + m ≤ grownCap w (n + m) old e := fun old => grownCap_ge w (n + m) old e
  have hlen : (xs ++ ys).length = (n + m) * i.size := by rw [List.length_append, hown.1, hyl, Nat.add_mul]
  -- what a new row gives
  have fresh : ∀ old, ∃ Lv', SlOwn e i.size (.slice (some ⟨w.heap.size, 0, none⟩) (n + m) (grownCap w (n + m) old e)) (n + m) (xs ++ ys) Lv' ∧
      Own w0 (w.drew.alloc (.cells (xs.toArray ++ ys.toArray ++ Builtin.zeroCells z.cells (grownCap w (n + m) old e - (n + m))) e)) (Lv' ++ L) ∧ (∀ k ∈ Lv'.map (·.1), w0.heap.size ≤ k) := by
    intro old
    have hge := hcapG old
    have hle := hcapL old
    generalize grownCap w (n + m) old e = cp at hge hle
    have hz0 : (Builtin.zeroCells z.cells (cp - (n + m))).toList.length = (cp - (n + m)) * i.size := by
      rw [Array.length_toList, size_zeroCells, hzs]
    refine ⟨[(w.heap.size, xs ++ ys ++ (Builtin.zeroCells z.cells (cp - (n + m))).toList, e)], ⟨hlen, Or.inr ⟨_, _, _, rfl, rfl, hge, hle, ?_, ?_⟩⟩, ?_, ?_⟩
    · rw [List.length_append, hlen, hz0, ← Nat.add_mul]
      congr 1; omega
    · rw [← hlen]; exact List.take_left
    · have h2 := (H.drop hd).drew.alloc (xs ++ ys ++ (Builtin.zeroCells z.cells (cp - (n + m))).toList) e
      have e1 : (xs ++ ys ++ (Builtin.zeroCells z.cells (cp - (n + m))).toList).toArray = xs.toArray ++ ys.toArray ++ Builtin.zeroCells z.cells (cp - (n + m)) := by simp
      rw [e1] at h2
      exact h2
    · intro k hk
      simp at hk
      have := H.size
      omega
  have hown' := hown
  rcases hown.2 with ⟨rfl, rfl, rfl⟩ | ⟨g, cap, cs, rfl, rfl, hn, hm, hc, htk⟩
  · have hx0 : xs = [] := by simpa using hown.1
    subst hx0
    rcases hsrc with ⟨⟨p, rfl⟩, rfl, rfl⟩ | ⟨b, off, c, rfl, _, hcell⟩
    · refine ⟨.slice none 0 0, w, [], ?_, by simpa using SlOwn.nil e i.size, H, by simp⟩
      rw [hrun (.ok (.slice none 0 0) w)]
      · rfl
      · cases p <;> simp [Builtin.append_, run_underlying ht, sizeOf, typeInfo, hi, Builtin.lenOf, Builtin.firstCells, loadCells, loadCellsFrom]
    · by_cases hm0 : m = 0
      · subst hm0
        have hy0 : ys = [] := by simpa using hyl
        subst hy0
        refine ⟨.slice none 0 0, w, [], ?_, by simpa using SlOwn.nil e i.size, H, by simp⟩
        rw [hrun (.ok (.slice none 0 0) w)]
        · rfl
        · simp [Builtin.append_, run_underlying ht, sizeOf, typeInfo, hi, Builtin.lenOf, Builtin.firstCells, loadCells, loadCellsFrom]
      · obtain ⟨Lv', f1, f2, f3⟩ := fresh 0
        have hr := run_append_nil (P := P) w t ty e i z ht hi hz ⟨b, off, none⟩ m c ys hyl (fun j v hv => by rw [add_plain]; exact hcell j v hv) (by omega) (by omega) (by simp only [Nat.zero_add] at hbytes; omega)
        simp only [Nat.zero_add, List.nil_append] at f1 f2 ⊢
        refine ⟨_, _, Lv', hrun _ hr, f1, ?_, f3⟩
        simpa using f2
  · have hcell0 : ∀ j v, xs[j]? = some v → w.cell? ((⟨g, 0, none⟩ : Addr).add j) = some v := by
      intro j v hv
      rw [add_plain, Nat.zero_add, H.cell (cs := cs) (T := e) (by simp)]
      rw [← htk, List.getElem?_take] at hv
      split at hv
      · exact hv
      · cases hv
    rcases hsrc with ⟨⟨p, rfl⟩, rfl, rfl⟩ | ⟨b, off, c, rfl, _, hcell⟩
    · refine ⟨.slice (some ⟨g, 0, none⟩) n cap, w, [(g, cs, e)], ?_, by simpa using hown', H, hd⟩
      rw [hrun (.ok (.slice (some ⟨g, 0, none⟩) n cap) w)]
      · rfl
      · cases p <;> simp [Builtin.append_, run_underlying ht, sizeOf, typeInfo, hi, Builtin.lenOf, Builtin.firstCells, hn, storeCells, loadCells, loadCellsFrom]
    · by_cases hroom : n + m ≤ cap
      · have hfit : n * i.size + ys.length ≤ cs.length := by rw [hyl, hc, ← Nat.add_mul]; exact Nat.mul_le_mul_right _ hroom
        have hb := H.here g cs e (by simp)
        have hr := run_append_room (P := P) w t ty e i ht hi g n cap cs.toArray hb ⟨b, off, none⟩ m c ys hyl (fun j v hv => by rw [add_plain]; exact hcell j v hv) h1 hroom (by simpa using hfit)
        have hAt : At ([(g, cs, e)] ++ L) g cs e (cs.take (n * i.size) ++ ys ++ cs.drop (n * i.size + ys.length)) ([(g, cs.take (n * i.size) ++ ys ++ cs.drop (n * i.size + ys.length), e)] ++ L) := At.head
        have h2 := H.set hAt
        refine ⟨_, _, [(g, cs.take (n * i.size) ++ ys ++ cs.drop (n * i.size + ys.length), e)], hrun _ hr, ⟨hlen, Or.inr ⟨g, cap, _, rfl, rfl, hroom, hm, ?_, ?_⟩⟩, by simpa using h2, by simpa using hd⟩
        · simp only [List.length_append, List.length_take, List.length_drop]; omega
        · rw [htk, ← hlen]; exact List.take_left
      · obtain ⟨Lv', f1, f2, f3⟩ := fresh cap
        have hr := run_append_grow (P := P) w t ty e i z ht hi hz ⟨g, 0, none⟩ n cap xs hown.1 hcell0 ⟨b, off, none⟩ m c ys hyl (fun j v hv => by rw [add_plain]; exact hcell j v hv) (by omega) (by omega) (growslice_fits (by omega) hbytes)
        exact ⟨_, _, Lv', hrun _ hr, f1, f2, f3⟩

/-- a slice literal -/
theorem rn_buildSlice (H : Own w0 w L) {t e : TypeId} {len : Nat} {parts : Array (Nat × Operand)} (ho : o.op = .buildSlice t len parts) {cs : List Value}
    (hf : ∀ w', (Instr.buildSlice t len (parts.map fun (i, x) => (i, a.eval x))).run P w' = .ok (.slice (some ⟨w'.heap.size, 0, none⟩) len len) (w'.alloc (.cells cs.toArray e))) :
    ∃ n w', (execOp a.eval o).run P w = .ok (.value (.slice (some ⟨n, 0, none⟩) len len)) w' ∧ w0.heap.size ≤ n ∧ Own w0 w' ((n, cs, e) :: L) := by
  refine ⟨w.heap.size, w.alloc (.cells cs.toArray e), ?_, H.size, H.alloc cs e⟩
  unfold execOp
  simp only [ho, Sem.run_bind, hf w, Result.andThen_ok]
  rfl

/-- an operation that yields a slice whose place is known by a property alone, and does not hang on the world -/
theorem st_slEx (hg : o.guard = none) {m : Nat} {R : Option Addr → Nat → Prop} (hrun : ∃ p c, (∀ w', (execOp a.eval o).run P w' = .ok (.value (.slice p m c)) w') ∧ R p c)
    (h : ∀ p c, R p c → wpList P ops Q rest (a.put o.dst (.slice p m c)) w) : wpList P ops Q (o :: rest) a w := by
  obtain ⟨p, c, hrun, hr⟩ := hrun
  exact st_val hg (hrun w) (h p c hr)

theorem qd_slEx {K : Act → Prop} (hg : o.guard = none) {m : Nat} {R : Option Addr → Nat → Prop} (hrun : ∃ p c, (∀ w', (execOp a.eval o).run P w' = .ok (.value (.slice p m c)) w') ∧ R p c)
    (h : ∀ p c, R p c → wpQuiet P ops (fun w' => ∃ m, w' = w.drewN m) K rest (a.put o.dst (.slice p m c))) : wpQuiet P ops (fun w' => ∃ m, w' = w.drewN m) K (o :: rest) a := by
  obtain ⟨p, c, hrun, hr⟩ := hrun
  exact qd_val hg (fun m => hrun _) (h p c hr)

/-- the part of a slice of one-cell elements -/
theorem sub_val {t : TypeId} {e : TypeId} (hu : P.underlying t = some (.slice e)) (hsz : (P.info? e).map (·.size) = some 1) {sv : Value} {n : Nat} {xs : List Value} (hs : SlAt w sv n xs) (_hxl : xs.length = n)
    {lo hi : Option Value} {l h : Nat} (hl : BoundIs lo 0 l) (hh : BoundIs hi n h) (h1 : l ≤ h) (h2 : h ≤ n) :
    ∃ v', (∀ w', (Instr.sliceAt t sv lo hi none).run P w' = .ok v' w') ∧ SlAt w v' (h - l) ((xs.drop l).take (h - l)) ∧ (∀ k, blk v' = some k → blk sv = some k) := by
  have hb : ∀ (sl cap : Nat) w', sl = n → n ≤ cap → (Instr.sliceBounds true sl cap lo hi none).run P w' = .ok (l, h, cap) w' := by
    intro sl cap w' hsl hcap
    subst hsl
    cases hl with
    | no =>
      cases hh with
      | no => rfl
      | yes h' =>
        subst h'
        simp [Instr.sliceBounds, Instr.sliceBound, asIntOf]
        omega
    | yes h' =>
      subst h'
      cases hh with
      | no =>
        simp [Instr.sliceBounds, Instr.sliceBound, asIntOf]
        omega
      | yes h'' =>
        subst h''
        have h5 : h ≤ cap := by omega
        simp [Instr.sliceBounds, Instr.sliceBound, asIntOf, h1, h5]
  rcases hs with ⟨⟨p, rfl⟩, rfl, rfl⟩ | ⟨b, off, cap, rfl, ⟨hn, hn0⟩, hc⟩
  · refine ⟨.slice p 0 0, fun w' => ?_, Or.inl ⟨⟨p, rfl⟩, by omega, by simp⟩, fun k hk => hk⟩
    have hl0 : l = 0 := by omega
    have hh0 : h = 0 := by omega
    have := hb 0 0 w' rfl (Nat.le_refl _)
    cases p <;> simp [Instr.sliceAt, Instr.slice, Sem.run_bind, run_underlying hu, this, run_sizeOf hsz, hl0, hh0]
  · refine ⟨.slice (some ⟨b, if cap = l then off else off + l, none⟩) (h - l) (cap - l), fun w' => ?_, ?_, fun k hk => by have h2 := blk_some hk; simp only [blk]; rw [if_neg (by omega)]; exact congrArg some h2.1⟩
    · have := hb n cap w' rfl hn
      simp only [Instr.sliceAt, Instr.slice, Sem.run_bind, run_underlying hu, this, run_sizeOf hsz, Result.andThen_ok, Sem.run_pure, Option.map, add_plain, Nat.mul_one]
      split <;> rfl
    · refine Or.inr ⟨b, _, cap - l, rfl, ⟨by omega, fun h0 => by rw [h0, List.take_zero]⟩, fun i x hx => ?_⟩
      rw [List.getElem?_take] at hx
      split at hx
      · rw [List.getElem?_drop] at hx
        have hil : l + i < xs.length := (List.getElem?_eq_some_iff.1 hx).1
        have hne : ¬ cap = l := by omega
        rw [if_neg hne, Nat.add_assoc]
        exact hc (l + i) x hx
      · cases hx

theorem rn_sub {t : TypeId} {x : Operand} {lo hi : Option Operand} (ho : o.op = .slice t x lo hi none) {e : TypeId} (hu : P.underlying t = some (.slice e)) (hsz : (P.info? e).map (·.size) = some 1) {sv : Value} (hx : a.eval x = sv) {n : Nat} {xs : List Value}
    (hs : SlAt w sv n xs) (hxl : xs.length = n) {l h : Nat} (hl : BoundIs (lo.map a.eval) 0 l) (hh : BoundIs (hi.map a.eval) n h) (h1 : l ≤ h) (h2 : h ≤ n) {m : Nat} (hm : h - l = m) :
    ∃ p c, (∀ w', (execOp a.eval o).run P w' = .ok (.value (.slice p m c)) w') ∧ (SlAt w (.slice p m c) m ((xs.drop l).take m) ∧ (∀ k, blk (Value.slice p m c) = some k → blk sv = some k)) := by
  subst hm
  obtain ⟨v', g1, g2, g3⟩ := sub_val hu hsz hs hxl hl hh h1 h2
  obtain ⟨p, c, rfl⟩ : ∃ p c, v' = .slice p (h - l) c := by
    rcases g2 with ⟨⟨p, rfl⟩, h0, _⟩ | ⟨b, off, cap, rfl, _, _⟩
    · exact ⟨_, 0, by rw [h0]⟩
    · exact ⟨_, _, rfl⟩
  refine ⟨p, c, fun w' => ?_, g2, g3⟩
  unfold execOp
  simp only [ho, hx, Sem.run_bind, Option.map_none, g1 w', Result.andThen_ok]
  rfl

/-- a block that holds what it held at first need not be named -/
theorem Own.unturned {L1 L2 : List Ent} {b : Nat} {cs : List Value} {T : TypeId} (h : Own w0 w (L1 ++ (b, cs, T) :: L2)) (h0 : w0.heap[b]? = some (.cells cs.toArray T (0, 0))) : Own w0 w (L1 ++ L2) := by
  refine ⟨h.os, h.tape, h.output, h.size, fun k hk hn => ?_, ?_, fun b' cs' T' hm => h.here b' cs' T' ?_⟩
  · by_cases e : k = b
    · subst e
      rw [h0]; exact h.here k cs T (by simp)
    · refine h.keep k hk ?_
      simp only [List.map_append, List.map_cons, List.mem_append, List.mem_cons, not_or] at hn ⊢
      exact ⟨hn.1, e, hn.2⟩
  · have := h.nodup
    simp only [List.map_append, List.map_cons, List.nodup_append, List.nodup_cons] at this ⊢
    exact ⟨this.1, this.2.1.2, fun x hx y hy => this.2.2 x hx y (List.mem_cons_of_mem _ hy)⟩
  · simp only [List.mem_append, List.mem_cons] at hm ⊢
    rcases hm with hm | hm
    · exact Or.inl hm
    · exact Or.inr (Or.inr hm)

/-- the first of the blocks has turned in a call -/
theorem Own.call1 {w' : World} {b : Nat} {cs cs' : List Value} {T T' : TypeId} (h : Own w0 w ((b, cs, T) :: L)) (hu : Own w w' [(b, cs', T')]) : Own w0 w' ((b, cs', T') :: L) :=
  Own.call (L1 := [(b, cs, T)]) (L1' := [(b, cs', T')]) h ⟨hu, by simp⟩ (by simp)

theorem Own.sub1 {b : Nat} {cs : List Value} {T : TypeId} (h : Own w0 w L) (hm : (b, cs, T) ∈ L) : Own w w [(b, cs, T)] := Own.one (h.here b cs T hm)

theorem BytesAt.cell {v : Value} {bs : List Int} (h : BytesAt w v bs) : ((∃ p, v = .slice p 0 0) ∧ bs = []) ∨ ∃ b off cap, v = .slice (some ⟨b, off, none⟩) bs.length cap ∧ bs.length ≤ cap ∧ ∀ i, i < bs.length → w.cell? ⟨b, off + i, none⟩ = some (.int .u8 (bs[i]?.getD 0)) := by
  rcases h with ⟨h1, h2, h3⟩ | ⟨b, off, cap, h1, h2, h3⟩
  · exact Or.inl ⟨h1, List.eq_nil_of_length_eq_zero h2⟩
  · exact Or.inr ⟨b, off, cap, h1, h2.1, fun i hi => h3 i _ (ints_get hi)⟩

end
end Go.Proofs.Ytjcnhpnadfhjaaa
