/- '==' of two arrays of numbers. And what stands on it. No condition. -/
import Derived.Test.YtfihlmnbonnekaaLow
import Derived.ChangeKeysEq
import Derived.Laws.StructEq
import Derived.Test.YtfihlmnbonnekaaRows
import Derived.Test.YtfihlmnbonnekaaDigA
import Derived.Laws.BitsLemmas
import Derived.Laws.Bits64

/-! '==' of two arrays of numbers. No dump, no condition. -/
namespace Go.Proofs.Ytfihlmnbonnekaa
open Go.RowKit

section
variable {P : Program}

theorem run_part_int {e : TypeId} {k q : IntKind} (he : P.underlying e = some (.int q)) {xs : List Int} {j : Nat} (hj : j < xs.length) (w : World) : (part e (ints k xs).toArray j).run P w = .ok (.int k (xs[j]?.getD 0)) w := by
  have hg : (ints k xs).toArray[j]? = some (.int k (xs[j]?.getD 0)) := by simpa using ints_get (k := k) hj
  unfold part
  simp only [Sem.run_bind, run_isAgg he, plainDesc, Bool.not_true, Result.andThen_ok, Bool.false_eq_true, if_false, hg, Sem.run_pure]

theorem run_eqItems_ints (d : Nat) {e : TypeId} {k q : IntKind} (he : P.underlying e = some (.int q)) (xs ys : List Int) (w : World) : ∀ (is : List Nat), (∀ j ∈ is, j < xs.length ∧ j < ys.length) →
    (Op.eqItems (d + 1) e 1 (ints k xs).toArray (ints k ys).toArray is).run P w = .ok (is.all fun j => xs[j]?.getD 0 == ys[j]?.getD 0) w
  | [], _ => rfl
  | j :: is, h => by
    have hj := h j (by simp)
    have ih := run_eqItems_ints d (k := k) he xs ys w is (fun j' hj' => h j' (by simp [hj']))
    simp only [Op.eqItems, Sem.run_bind, Nat.mul_one, run_part_int he hj.1, run_part_int he hj.2, Result.andThen_ok, run_equalIn_int w d e k q _ _ he, List.all_cons]
    cases hb : (xs[j]?.getD 0 == ys[j]?.getD 0)
    · simp [Sem.run_pure]
    · simp [ih]

theorem all_eq_iff {xs ys : List Int} (h : xs.length = ys.length) : ((List.range xs.length).all fun j => xs[j]?.getD 0 == ys[j]?.getD 0) = decide (xs = ys) := by
  rw [Bool.eq_iff_iff]
  simp only [List.all_eq_true, List.mem_range, beq_iff_eq, decide_eq_true_eq]
  constructor
  · intro ha
    apply List.ext_getElem h
    intro i h1 h2
    have := ha i h1
    simpa [h1, h2] using this
  · rintro rfl _ _; rfl

theorem run_eqInts {D : Nat} (d : Nat) (hD : D = d + 2) {t e : TypeId} {k q : IntKind} {n : Nat} (hu : P.underlying t = some (.array n e)) (he : P.underlying e = some (.int q)) (hs : (P.info? e).map (·.size) = some 1) (xs ys : List Int) (hx : xs.length = n) (hy : ys.length = n) (w : World) :
    (Op.equalIn D t (.agg (ints k xs).toArray) (.agg (ints k ys).toArray)).run P w = .ok (decide (xs = ys)) w := by
  subst hD
  cases hi : P.info? e with
  | none => simp [hi] at hs
  | some i =>
    have h1 : P.cellsOf e = 1 := by simp [hi] at hs; simp [Program.cellsOf, hi, hs]
    rw [run_equalIn_array w (d + 1) _ _ hu hi, h1, run_eqItems_ints d he xs ys w _ (fun j hj => by rw [List.mem_range] at hj; omega), ← hx, all_eq_iff (by omega)]

end

set_option maxRecDepth 100000 in
theorem eqHash (w : World) (xs ys : List Int) (hx : xs.length = 32) (hy : ys.length = 32) : (Op.equalIn 10000 28 (.agg (u8s xs).toArray) (.agg (u8s ys).toArray)).run Try.prog w = .ok (decide (xs = ys)) w :=
  run_eqInts 9998 (by omega) (e := 5) (q := .u8) rfl rfl (by kernel_rfl) xs ys hx hy w

end Go.Proofs.Ytfihlmnbonnekaa

/-! Facts about digests, literals, bytes of one's own; int(uint(x) % m). -/
namespace Go.Proofs.Ytfihlmnbonnekaa
open Go.RowKit

section
variable {P : Program} {ops : Array Oper} {rest : List Oper} {o : Oper} {a : Act} {w w0 : World} {Q : Exit → Act → World → Prop} {L L' : List Ent}
theorem st_newG (hw : Region.wanted o (yielded ops a.tmps) = true) {f : Nat → Value} {g : Nat → List Ent} (hrun : ∃ n w', (execOp a.eval o).run P w = .ok (.value (f n)) w' ∧ w0.heap.size ≤ n ∧ Own w0 w' (g n))
    (h : ∀ n w', w0.heap.size ≤ n → Own w0 w' (g n) → wpList P ops Q rest (a.put o.dst (f n)) w') : wpList P ops Q (o :: rest) a w := by
  obtain ⟨n, w', hrun, hn, ho⟩ := hrun
  exact BigFrame.wpList_want hw fun K hK => by unfold Oper.wp; rw [hrun, Oper.upon_value]; exact hK _ _ (h n w' hn ho)
end

def IsBytes (hs : List Int) : Prop := ∀ i, i < hs.length → 0 ≤ hs[i]?.getD 0 ∧ hs[i]?.getD 0 < 256

theorem length_sha (bs : List Int) : (sha bs).length = 32 := rfl

theorem isBytes_bytes4 (x : Int) : ∀ y ∈ bytes4 x, 0 ≤ y ∧ y < 256 := by
  intro y hy
  simp only [bytes4, w8, List.mem_cons, List.not_mem_nil, or_false] at hy
  omega

theorem sha_mem (bs : List Int) : ∀ y ∈ sha bs, 0 ≤ y ∧ y < 256 := by
  intro y hy
  unfold sha St.bytes at hy
  simp only [List.mem_append] at hy
  rcases hy with ((((((hy | hy) | hy) | hy) | hy) | hy) | hy) | hy <;> exact isBytes_bytes4 _ y hy

theorem isBytes_sha (bs : List Int) : IsBytes (sha bs) := by
  intro i hi
  have : (sha bs)[i]?.getD 0 = (sha bs)[i] := by simp [hi]
  rw [this]
  exact sha_mem bs _ (List.getElem_mem hi)

theorem Own.lit {w0 w : World} {L : List Ent} {b : Nat} {bs : List Int} {T : TypeId} {n : Nat} (H : Own w0 w ((b, u8s bs, T) :: L)) (hn : n = bs.length) : BytesAt w (.slice (some ⟨b, 0, none⟩) n n) bs := by
  subst hn
  exact Or.inr ⟨b, 0, bs.length, rfl, ⟨Nat.le_refl _, fun h => by rw [List.eq_nil_of_length_eq_zero h]; rfl⟩, fun i x hx => by rw [H.cell (.head _), Nat.zero_add]; exact hx⟩

theorem Own.lit_lt {w0 w : World} {L : List Ent} {b : Nat} {cs : List Value} {T : TypeId} {n : Nat} (H : Own w0 w ((b, cs, T) :: L)) : ∀ k, blk (Value.slice (some ⟨b, 0, none⟩) n n) = some k → k < w.heap.size := by
  intro k hk
  obtain rfl : b = k := (blk_some hk).1
  exact H.lt (.head _)

theorem Own.lit_ne {w0 w : World} {L : List Ent} {b d : Nat} {cs : List Value} {T : TypeId} {n : Nat} (H : Own w0 w ((b, cs, T) :: L)) (hd : d ∈ L.map (·.1)) : ∀ k, blk (Value.slice (some ⟨b, 0, none⟩) n n) = some k → k ≠ d := by
  intro k hk
  obtain rfl : b = k := (blk_some hk).1
  have := H.nodup
  simp only [List.map_cons, List.nodup_cons] at this
  intro e
  exact this.1 (e ▸ hd)

theorem Own.pop {w0 w : World} {L : List Ent} {b : Nat} {cs : List Value} {T : TypeId} (H : Own w0 w ((b, cs, T) :: L)) (hb : w0.heap.size ≤ b) : Own w0 w L := Own.drop (L1 := [(b, cs, T)]) H (by simpa using hb)

/-- int(uint(x) % m) -/
theorem rem_wrap (x m : Int) (h0 : 0 < m) (h1 : m ≤ 4611686018427387904) : ∃ n : Nat, wrap64 ((IntKind.u64.wrap x).tmod m) = (n : Int) ∧ (n : Int) < m := by
  have hx := wrap_u64_nonneg x
  generalize IntKind.u64.wrap x = y at hx
  have h2 : y.tmod m = y % m := Int.tmod_eq_emod_of_nonneg hx
  have h3 := Int.emod_nonneg y (b := m) (by omega)
  have h4 := Int.emod_lt_of_pos y h0
  refine ⟨(y % m).toNat, ?_, by omega⟩
  rw [h2, Int.toNat_of_nonneg h3]
  unfold wrap64
  omega

theorem make_u8 : ((Try.prog.info? 5).bind fun i => i.zero.map fun z => (i.size, i.bytes, z.cells.toList)) = some (1, 1, [.int .u8 0]) := by kernel_rfl

/-- reads as these bytes, and lies where there is memory -/
def BIn (xs : List Int) : World → Value → Prop := fun w v => (∃ p c, v = .slice p xs.length c) ∧ BytesAt w v xs ∧ ∀ k, blk v = some k → k < w.heap.size
theorem BIn.mono (xs : List Int) : Mono (BIn xs) := fun _ _ _ h ⟨h1, h2, h3⟩ => ⟨h1, SlAt.own0 h2 h, fun k hk => Nat.lt_of_lt_of_le (h3 k hk) h.size⟩

section
variable {P : Program} {ops : Array Oper} {w : World} {K : (World → (Nat → Prop) → Prop) → Act → Prop} {sps : List Sp} {o : Oper} {rest : List Oper} {F : World → (Nat → Prop) → Prop} {a : Act} {v : Value}
theorem sp_bytesOf {src dst e : TypeId} {x : Operand} {s : ByteArray} (hw : Region.wanted o (yielded ops a.tmps) = true) (ho : o.op = .convert src dst x) (hs : P.underlying src = some .string) (hd : P.underlying dst = some (.slice e)) (he : P.underlying e = some (.int .u8)) (hx : a.eval x = .string s)
    (h2 : ∀ v, wpSp P ops w K sps rest (fun w' S => F w' S ∧ ∀ d, o.dst = some d → S d → BIn (numsOf s) w' v) (a.put o.dst v)) : wpSp P ops w K (.rel (BIn (numsOf s)) :: sps) (o :: rest) F a := by
  refine sp_rel (BIn.mono _) hw (fun w' hw' hF => ?_) h2
  obtain ⟨p, c, w1, hr, h1, h3, h4⟩ := rn_bytesOf (P := P) (w := w') ho hs hd he hx (length_numsOf s).symm
  exact yieldsTo_val' hr ⟨h1, ⟨_, _, rfl⟩, h3, h4⟩
end

end Go.Proofs.Ytfihlmnbonnekaa

/-! A digest as one thing that holds bytes. -/
namespace Go.Proofs.Ytfihlmnbonnekaa
open Go.RowKit

/-- these cells are a digest of these bytes -/
def IsDig (xs : List Int) (cs : List Value) : Prop := ∃ st rest, DigOf xs st rest ∧ cs = digCells st rest xs.length

theorem new_e (w : World) : Calls Try.prog 102 #[] w fun e w' => ∃ d cs, e = .returned (.pointer (some ⟨d, 0, none⟩)) ∧ w.heap.size ≤ d ∧ IsDig [] cs ∧ Own w w' [(d, cs, 167)] :=
  (new_any w).mono fun _ _ ⟨d, h1, h2, h3⟩ => ⟨d, _, h1, h2, ⟨_, _, DigOf.nil, rfl⟩, h3⟩

theorem copy_e (w : World) (d : Nat) (xs : List Int) (cs : List Value) (hd : IsDig xs cs) (H : Own w w [(d, cs, 167)]) :
    Calls Try.prog 110 #[.pointer (some ⟨d, 0, none⟩)] w fun e w' => ∃ c, e = .returned (.pointer (some ⟨c, 0, none⟩)) ∧ w.heap.size ≤ c ∧ Own w w' [(c, cs, 167)] := by
  obtain ⟨st, rest, h, rfl⟩ := hd
  exact copy_any w d st rest xs.length h.2.1 H

theorem write_e (w : World) (d : Nat) (xs bs : List Int) (cs : List Value) (v : Value) (hd : IsDig xs cs) (hN : xs.length ≤ 140737488351232) (hB : bs.length ≤ 140737488351232)
    (H : Own w w [(d, cs, 167)]) (hv : BytesAt w v bs) (hne : ∀ k, blk v = some k → k ≠ d) :
    Calls Try.prog 103 #[.pointer (some ⟨d, 0, none⟩), v] w fun e w' => e = .returned (.tuple #[]) ∧ ∃ cs', IsDig (xs ++ bs) cs' ∧ Own w w' [(d, cs', 167)] := by
  obtain ⟨st, rest, h, rfl⟩ := hd
  refine (write_any w d st rest xs bs v h hN hB H hv hne).mono ?_
  rintro e w' ⟨he, st', rest', h1, h2⟩
  exact ⟨he, _, ⟨st', rest', h1, rfl⟩, by rw [List.length_append]; exact h2⟩

theorem sum_e (w : World) (d : Nat) (xs : List Int) (cs : List Value) (hd : IsDig xs cs) (hN : xs.length ≤ 140737488351232) (H : Own w w [(d, cs, 167)]) :
    Calls Try.prog 104 #[.pointer (some ⟨d, 0, none⟩)] w fun e w' => e = .returned (.agg (u8s (sha xs)).toArray) ∧ Own w w' [] := by
  obtain ⟨st, rest, h, rfl⟩ := hd
  exact sum_any w d st rest xs h hN H

theorem Buf.lt {e : TypeId} {k : IntKind} {w0 w : World} {L : List Ent} {v : Value} {xs : List Int} (h : Buf e k w0 w L v xs) : ∀ j, blk v = some j → j < w.heap.size := by
  obtain ⟨Lv, ⟨_, ⟨rfl, _, _⟩ | ⟨g, cap, cs, rfl, rfl, _⟩⟩, h2, _⟩ := h
  · intro j hj; cases hj
  · intro j hj
    obtain rfl : g = j := (blk_some hj).1
    exact h2.lt (cs := cs) (T := e) (by simp)

/-- a call turns a block that stands further behind -/
theorem Own.callAt {w0 w w' : World} {L1 L2 : List Ent} {b : Nat} {cs cs' : List Value} {T T' : TypeId} (h : Own w0 w (L1 ++ (b, cs, T) :: L2)) (hu : Own w w' [(b, cs', T')]) : Own w0 w' (L1 ++ (b, cs', T') :: L2) :=
  (Own.call1 (h.perm List.perm_middle) hu).perm List.perm_middle.symm

/-- a call that lays a block -/
theorem Own.callNew {w0 w w' : World} {L : List Ent} {b : Nat} {cs : List Value} {T : TypeId} (h : Own w0 w L) (hu : Own w w' [(b, cs, T)]) (hb : w.heap.size ≤ b) : Own w0 w' ((b, cs, T) :: L) :=
  Own.call (L1 := []) (L1' := [(b, cs, T)]) h ⟨hu, by simpa using hb⟩ (by simp)

theorem OldL.addr {w : World} {p : Option Addr} {n c : Nat} {ls : List (Value × List Int)} (h : OldL w (.slice p n c) ls) (hn : 0 < ls.length) : ∃ b off, p = some ⟨b, off, none⟩ := by
  rcases h.sl with ⟨_, h0, _⟩ | ⟨b, off, cap, hv, _, _⟩
  · omega
  · cases hv; exact ⟨b, off, rfl⟩

theorem OldL.cellAt {w w1 : World} {b off n c : Nat} {ls : List (Value × List Int)} {L : List Ent} (h : OldL w (.slice (some ⟨b, off, none⟩) n c) ls) (ho : Own w w1 L) (hn : ∀ k ∈ L.map (·.1), w.heap.size ≤ k) {i : Nat} {x : Value × List Int} (hx : ls[i]? = some x) :
    w1.cell? ⟨b, off + i * 1, none⟩ = some x.1 := by
  have hi := (List.getElem?_eq_some_iff.1 hx).1
  have h1 : SlAt w1 (.slice (some ⟨b, off, none⟩) n c) ls.length (ls.map (·.1)) := SlAt.own h.sl ho (fun j hj hm => by have := h.lt j hj; have := hn j hm; omega)
  rcases h1 with ⟨_, h0, _⟩ | ⟨b', off', cap, hv, _, hc⟩
  · omega
  · cases hv
    rw [Nat.mul_one]
    exact hc i x.1 (by rw [List.getElem?_map, hx]; rfl)

theorem Buf.callNew {e : TypeId} {k : IntKind} {w0 w w' : World} {L : List Ent} {v : Value} {xs : List Int} {b : Nat} {cs : List Value} {T : TypeId} (h : Buf e k w0 w L v xs) (hu : Own w w' [(b, cs, T)]) (hb : w.heap.size ≤ b) : Buf e k w0 w' ((b, cs, T) :: L) v xs := by
  obtain ⟨Lv, h1, h2, h3⟩ := h
  exact ⟨Lv, h1, (h2.callNew hu hb).perm List.perm_middle.symm, h3⟩

theorem Buf.callAt {e : TypeId} {k : IntKind} {w0 w w' : World} {L1 L2 : List Ent} {v : Value} {xs : List Int} {b : Nat} {cs cs' : List Value} {T T' : TypeId} (h : Buf e k w0 w (L1 ++ (b, cs, T) :: L2) v xs) (hu : Own w w' [(b, cs', T')]) : Buf e k w0 w' (L1 ++ (b, cs', T') :: L2) v xs := by
  obtain ⟨Lv, h1, h2, h3⟩ := h
  refine ⟨Lv, h1, ?_, h3⟩
  rw [← List.append_assoc] at h2 ⊢
  exact h2.callAt hu

theorem size_sl : (Try.prog.info? 33).map (·.size) = some 1 := by kernel_rfl

end Go.Proofs.Ytfihlmnbonnekaa
