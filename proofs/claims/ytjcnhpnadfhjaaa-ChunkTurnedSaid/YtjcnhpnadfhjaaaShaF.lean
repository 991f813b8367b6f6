/- Facts about digests, literals, bytes of one's own; int(uint(x) % m). -/
import Derived.Test.YtjcnhpnadfhjaaaHash
import Derived.Test.YtjcnhpnadfhjaaaMake
import Derived.Laws.BitsLemmas
import Derived.Laws.Bits64
import Derived.Test.YtjcnhpnadfhjaaaEq
import Derived.Test.YtjcnhpnadfhjaaaGrow
import Derived.Test.YtjcnhpnadfhjaaaConv
namespace Go.Proofs.Ytjcnhpnadfhjaaa
open Go.RowKit

section
variable {P : Program} {ops : Array Oper} {rest : List Oper} {o : Oper} {a : Act} {w w0 : World} {Q : Exit → Act → World → Prop} {L L' : List Ent}
theorem st_newG (hw : Region.wanted o (yielded ops a.tmps) = true) {f : Nat → Value} {g : Nat → List Ent} (hrun : ∃ n w', (execOp a.eval o).run P w = .ok (.value (f n)) w' ∧ w0.heap.size ≤ n ∧ Own w0 w' (g n))
    (h : ∀ n w', w0.heap.size ≤ n → Own w0 w' (g n) → wpList P ops Q rest (a.put o.dst (f n)) w') : wpList P ops Q (o :: rest) a w := by
  obtain ⟨n, w', hrun, hn, ho⟩ := hrun
  exact BigFrame.wpList_want hw fun K hK => by unfold Oper.wp; rw [hrun, Oper.upon_value]; exact hK _ _ (h n w' hn ho)
end

def IsBytes (hs : List Int) : Prop := ∀ i, i < hs.length → 0 ≤ hs[i]?.getD 0 ∧ hs[i]?.getD 0 < 256

theorem length_sha (bs : List Int) : (sha bs).length = 32 := rfl

theorem isBytes_bytes4 (x : Int) : ∀ y ∈ bytes4 x, 0 ≤ y ∧ y < 256 := by
  intro y hy
  simp only [bytes4, w8, List.mem_cons, List.not_mem_nil, or_false] at hy
  omega

theorem sha_mem (bs : List Int) : ∀ y ∈ sha bs, 0 ≤ y ∧ y < 256 := by
  intro y hy
  unfold sha St.bytes at hy
  simp only [List.mem_append] at hy
  rcases hy with ((((((hy | hy) | hy) | hy) | hy) | hy) | hy) | hy <;> exact isBytes_bytes4 _ y hy

theorem isBytes_sha (bs : List Int) : IsBytes (sha bs) := by
  intro i hi
  have : (sha bs)[i]?.getD 0 = (sha bs)[i] := by simp [hi]
  rw [this]
  exact sha_mem bs _ (List.getElem_mem hi)

theorem Own.lit {w0 w : World} {L : List Ent} {b : Nat} {bs : List Int} {T : TypeId} {n : Nat} (H : Own w0 w ((b, u8s bs, T) :: L)) (hn : n = bs.length) : BytesAt w (.slice (some ⟨b, 0, none⟩) n n) bs := by
  subst hn
  exact Or.inr ⟨b, 0, bs.length, rfl, ⟨Nat.le_refl _, fun h => by rw [List.eq_nil_of_length_eq_zero h]; rfl⟩, fun i x hx => by rw [H.cell (.head _), Nat.zero_add]; exact hx⟩

theorem Own.lit_lt {w0 w : World} {L : List Ent} {b : Nat} {cs : List Value} {T : TypeId} {n : Nat} (H : Own w0 w ((b, cs, T) :: L)) : ∀ k, blk (Value.slice (some ⟨b, 0, none⟩) n n) = some k → k < w.heap.size := by
  intro k hk
  obtain rfl : b = k := (blk_some hk).1
  exact H.lt (.head _)

theorem Own.lit_ne {w0 w : World} {L : List Ent} {b d : Nat} {cs : List Value} {T : TypeId} {n : Nat} (H : Own w0 w ((b, cs, T) :: L)) (hd : d ∈ L.map (·.1)) : ∀ k, blk (Value.slice (some ⟨b, 0, none⟩) n n) = some k → k ≠ d := by
  intro k hk
  obtain rfl : b = k := (blk_some hk).1
  have := H.nodup
  simp only [List.map_cons, List.nodup_cons] at this
  intro e
  exact this.1 (e ▸ hd)

theorem Own.pop {w0 w : World} {L : List Ent} {b : Nat} {cs : List Value} {T : TypeId} (H : Own w0 w ((b, cs, T) :: L)) (hb : w0.heap.size ≤ b) : Own w0 w L := Own.drop (L1 := [(b, cs, T)]) H (by simpa using hb)

/-- int(uint(x) % m) -/
theorem rem_wrap (x m : Int) (h0 : 0 < m) (h1 : m ≤ 4611686018427387904) : ∃ n : Nat, wrap64 ((IntKind.u64.wrap x).tmod m) = (n : Int) ∧ (n : Int) < m := by
  have hx := wrap_u64_nonneg x
  generalize IntKind.u64.wrap x = y at hx
  have h2 : y.tmod m = y % m := Int.tmod_eq_emod_of_nonneg hx
  have h3 := Int.emod_nonneg y (b := m) (by omega)
  have h4 := Int.emod_lt_of_pos y h0
  refine ⟨(y % m).toNat, ?_, by omega⟩
  rw [h2, Int.toNat_of_nonneg h3]
  unfold wrap64
  omega

theorem make_u8 : ((Try.prog.info? 5).bind fun i => i.zero.map fun z => (i.size, i.bytes, z.cells.toList)) = some (1, 1, [.int .u8 0]) := by kernel_rfl

/-- reads as these bytes, and lies where there is memory -/
def BIn (xs : List Int) : World → Value → Prop := fun w v => (∃ p c, v = .slice p xs.length c) ∧ BytesAt w v xs ∧ ∀ k, blk v = some k → k < w.heap.size
theorem BIn.mono (xs : List Int) : Mono (BIn xs) := fun _ _ _ h ⟨h1, h2, h3⟩ => ⟨h1, SlAt.own0 h2 h, fun k hk => Nat.lt_of_lt_of_le (h3 k hk) h.size⟩

section
variable {P : Program} {ops : Array Oper} {w : World} {K : (World → (Nat → Prop) → Prop) → Act → Prop} {sps : List Sp} {o : Oper} {rest : List Oper} {F : World → (Nat → Prop) → Prop} {a : Act} {v : Value}
theorem sp_bytesOf {src dst e : TypeId} {x : Operand} {s : ByteArray} (hw : Region.wanted o (yielded ops a.tmps) = true) (ho : o.op = .convert src dst x) (hs : P.underlying src = some .string) (hd : P.underlying dst = some (.slice e)) (he : P.underlying e = some (.int .u8)) (hx : a.eval x = .string s)
    (h2 : ∀ v, wpSp P ops w K sps rest (fun w' S => F w' S ∧ ∀ d, o.dst = some d → S d → BIn (numsOf s) w' v) (a.put o.dst v)) : wpSp P ops w K (.rel (BIn (numsOf s)) :: sps) (o :: rest) F a := by
  refine sp_rel (BIn.mono _) hw (fun w' hw' hF => ?_) h2
  obtain ⟨p, c, w1, hr, h1, h3, h4⟩ := rn_bytesOf (P := P) (w := w') ho hs hd he hx (length_numsOf s).symm
  exact yieldsTo_val' hr ⟨h1, ⟨_, _, rfl⟩, h3, h4⟩
end

end Go.Proofs.Ytjcnhpnadfhjaaa
