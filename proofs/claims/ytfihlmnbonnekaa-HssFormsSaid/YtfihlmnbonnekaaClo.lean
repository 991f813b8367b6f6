/- slices.Clone of bytes: what it returns is the caller's own. -/
import Derived.Test.YtfihlmnbonnekaaPack
import Derived.Test.YtfihlmnbonnekaaLow2
namespace Go.Proofs.Ytfihlmnbonnekaa
open Go.RowKit

theorem Buf.new {e : TypeId} {k : IntKind} {w0 w : World} {L : List Ent} {v : Value} {xs : List Int} (h : Buf e k w0 w L v xs) : ∀ j, blk v = some j → w0.heap.size ≤ j := by
  obtain ⟨Lv, ⟨_, ⟨rfl, _, _⟩ | ⟨g, cap, cs, rfl, rfl, _⟩⟩, _, h3⟩ := h
  · intro j hj; cases hj
  · intro j hj
    obtain rfl : g = j := (blk_some hj).1
    exact h3 g (by simp)

/-- a block of one's own, read as a slice -/
theorem Own.litM {w0 w : World} {L : List Ent} {b : Nat} {bs : List Int} {T : TypeId} {n : Nat} (H : Own w0 w L) (hm : (b, u8s bs, T) ∈ L) (hn : n = bs.length) : BytesAt w (.slice (some ⟨b, 0, none⟩) n n) bs := by
  subst hn
  exact Or.inr ⟨b, 0, bs.length, rfl, ⟨Nat.le_refl _, fun h => by rw [List.eq_nil_of_length_eq_zero h]; rfl⟩, fun i x hx => by rw [H.cell hm, Nat.zero_add]; exact hx⟩

/-- a call hands out a buffer -/
theorem Own.callBuf {e : TypeId} {k : IntKind} {w0 w w' : World} {L : List Ent} {v : Value} {xs : List Int} (h : Own w0 w L) (hb : Buf e k w w' [] v xs) : Buf e k w0 w' L v xs := by
  obtain ⟨Lv, h1, h2, h3⟩ := hb
  rw [List.append_nil] at h2
  exact ⟨Lv, h1, Own.call (L1 := []) (L1' := Lv) h ⟨h2, fun j hj => Or.inr (h3 j hj)⟩ (by simp), fun j hj => Nat.le_trans h.size (h3 j hj)⟩

/-- bytes that a call hands out, where there is memory -/
theorem Buf.bin {w0 w : World} {L : List Ent} {v : Value} {xs : List Int} {e : TypeId} (h : Buf e .u8 w0 w L v xs) : BIn xs w v := ⟨h.slice, h.bytesAt, h.lt⟩

theorem st_bufPut {P : Program} {ops : Array Oper} {rest : List Oper} {o : Oper} {a : Act} {w w0 : World} {Q : Exit → Act → World → Prop} {L : List Ent} {e : TypeId} {k : IntKind} {v : Value} {xs : List Int} (hg : o.guard = none) {b : Nat} {cs vs : List Value} {T : TypeId} (E : Buf e k w0 w ((b, cs, T) :: L) v xs) {ty : TypeId} {x y : Operand} (ho : o.op = .store ty x y) (hx : a.eval x = .pointer (some ⟨b, 0, none⟩)) (hy : a.eval y = .agg vs.toArray)
    (hs : (P.info? ty).map (·.size) = some vs.length) (hl : vs.length = cs.length) (h1 : ∀ v ∈ vs, v.oneCell' = true)
    (h : ∀ w', Buf e k w0 w' ((b, vs, T) :: L) v xs → wpList P ops Q rest (a.put o.dst undef) w') : wpList P ops Q (o :: rest) a w := by
  obtain ⟨Lv, hsl, H, hf⟩ := E
  exact st_skip hg (rn_storeAll H ho hx hy hs (At.right At.head) hl h1) fun w' H' => h w' ⟨Lv, hsl, H', hf⟩

set_option maxRecDepth 100000 in
set_option maxHeartbeats 1000000 in
theorem clone_any (w : World) (v : Value) (bs : List Int) (hO : Old w v bs) (hl : bs.length ≤ 140737488355000) :
    Calls Try.prog 101 #[v] w fun e w' => ∃ r, e = .returned r ∧ Buf 5 .u8 w w' [] r bs := by
  have H := Own.refl w
  obtain ⟨p0, c0, rfl⟩ := hO.shape
  have O := Lib.hid hO
  have hl' := Lib.hid hl
  obtain ⟨n, hn⟩ : ∃ n, n = bs.length := ⟨_, rfl⟩
  rw [← hn] at O ⊢
  have hn' := Lib.hid hn
  clear hO hl hn
  cases p0 with
  | none =>
    have h0 : n = 0 ∧ c0 = 0 := by
      rcases O.out.1.cell with ⟨⟨p, h⟩, _⟩ | ⟨b, off, cap, h, _, _⟩
      · cases h; exact ⟨rfl, rfl⟩
      · cases h
    obtain ⟨rfl, rfl⟩ := h0
    have hb : bs = [] := List.eq_nil_of_length_eq_zero hn'.out.symm
    have H' := Lib.hid H
    clear H
    have hnil : ∀ w1 : World, (binOp .eql 33 (.slice none 0 0) (.slice none 0 0)).run Try.prog w1 = .ok (.bool (none : Option Addr).isNone) w1 := fun w1 => run_eql_nil_slice w1 _ _ _ _ _ _ _ Try.underlying33
    simp only [Option.isNone_none] at hnil
    go_enter Try.func101, Try.ntmps101
    go_wp2_with fail
    go_ret
    exact ⟨_, rfl, by rw [hb]; exact Buf.nil H'.out⟩
  | some a0 =>
    have hnil : ∀ w1 : World, (binOp .eql 33 (.slice (some a0) n c0) (.slice none 0 0)).run Try.prog w1 = .ok (.bool (some a0).isNone) w1 := fun w1 => Go.Lib.run_eql_slice_nil w1 _ _ _ _ _ _ _ Try.underlying33
    simp only [Option.isNone_some] at hnil
    have tok1 : True := trivial
    go_enter Try.func101, Try.ntmps101
    go_wp2_with (first
      | (clear tok1; refine st_new rfl (rn_buildSlice (e := 5) (cs := u8s []) H rfl (fun w' => by kernel_rfl)) ?_; clear H; intro b w4 hb H; have B : Buf 5 .u8 w w4 [] (.slice (some ⟨b, 0, none⟩) 0 0) [] := Buf.lit (xs := []) H hb (by decide); clear H)
      | (refine st_app (ys := bs) rfl B elem_u8 rfl rfl rfl rfl (O.out.at B.own0 (by simp)) (by have := hl'.out; simp; omega) (by have := hl'.out; simp; omega) ?_; clear B; intro p6 c6 w6 B))
    have h1 := Lib.hid B
    simp only [List.length_nil, Nat.zero_add, List.nil_append] at h1 ⊢
    clear B
    go_ret
    exact ⟨_, rfl, h1.out⟩

end Go.Proofs.Ytfihlmnbonnekaa
