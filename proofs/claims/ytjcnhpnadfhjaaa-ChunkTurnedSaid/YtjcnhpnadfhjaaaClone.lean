/- slices.Clone of bytes. -/
import Derived.Test.YtjcnhpnadfhjaaaRefSplit
namespace Go.Proofs.Ytjcnhpnadfhjaaa
open Go.RowKit

theorem Buf.new {e : TypeId} {k : IntKind} {w0 w : World} {L : List Ent} {v : Value} {xs : List Int} (h : Buf e k w0 w L v xs) : ∀ j, blk v = some j → w0.heap.size ≤ j := by
  obtain ⟨Lv, ⟨_, ⟨rfl, _, _⟩ | ⟨g, cap, cs, rfl, rfl, _⟩⟩, _, h3⟩ := h
  · intro j hj; cases hj
  · intro j hj
    obtain rfl : g = j := (blk_some hj).1
    exact h3 g (by simp)

set_option maxRecDepth 100000 in
set_option maxHeartbeats 1000000 in
theorem clone_any (w : World) (v : Value) (bs : List Int) (hO : Old w v bs) (hl : bs.length ≤ 140737488355000) :
    Calls Try.prog 18 #[v] w fun e w' => ∃ r, e = .returned r ∧ BIn bs w' r ∧ Own w w' [] ∧ ∀ k, blk r = some k → w.heap.size ≤ k := by
  have H := Own.refl w
  obtain ⟨p0, c0, rfl⟩ := hO.shape
  have O := Lib.hid hO
  have hl' := Lib.hid hl
  obtain ⟨n, hn⟩ : ∃ n, n = bs.length := ⟨_, rfl⟩
  rw [← hn] at O ⊢
  have hn' := Lib.hid hn
  clear hO hl hn
  cases p0 with
  | none =>
    have h0 : n = 0 ∧ c0 = 0 := by
      rcases O.out.1.cell with ⟨⟨p, h⟩, _⟩ | ⟨b, off, cap, h, _, _⟩
      · cases h; exact ⟨rfl, rfl⟩
      · cases h
    obtain ⟨rfl, rfl⟩ := h0
    have hb : bs = [] := List.eq_nil_of_length_eq_zero hn'.out.symm
    have H' := Lib.hid H
    clear H
    have hnil : ∀ w1 : World, (binOp .eql 25 (.slice none 0 0) (.slice none 0 0)).run Try.prog w1 = .ok (.bool (none : Option Addr).isNone) w1 := fun w1 => run_eql_nil_slice w1 _ _ _ _ _ _ _ Try.underlying25
    simp only [Option.isNone_none] at hnil
    go_enter Try.func18, Try.ntmps18
    go_wp2_with fail
    go_ret
    exact ⟨_, rfl, by rw [hb]; exact BIn.nil _, H'.out, fun k hk => by cases hk⟩
  | some a0 =>
    have hnil : ∀ w1 : World, (binOp .eql 25 (.slice (some a0) n c0) (.slice none 0 0)).run Try.prog w1 = .ok (.bool (some a0).isNone) w1 := fun w1 => Go.Lib.run_eql_slice_nil w1 _ _ _ _ _ _ _ Try.underlying25
    simp only [Option.isNone_some] at hnil
    have tok1 : True := trivial
    go_enter Try.func18, Try.ntmps18
    go_wp2_with (first
      | (clear tok1; refine st_new rfl (rn_buildSlice (e := 5) (cs := u8s []) H rfl (fun w' => by kernel_rfl)) ?_; clear H; intro b w4 hb H; have B : Buf 5 .u8 w w4 [] (.slice (some ⟨b, 0, none⟩) 0 0) [] := Buf.lit (xs := []) H hb (by decide); clear H)
      | (refine st_app (ys := bs) rfl B elem_u8 rfl rfl rfl rfl (O.out.at B.own0 (by simp)) (by have := hl'.out; simp; omega) (by have := hl'.out; simp; omega) ?_; clear B; intro p6 c6 w6 B))
    have h1 := Lib.hid B.bytesAt
    have h2 := Lib.hid B.lt
    have h3 := Lib.hid B.own0
    have h4 := Lib.hid B.new
    simp only [List.length_nil, Nat.zero_add, List.nil_append] at h1 h2 h4 ⊢
    clear B
    go_ret
    exact ⟨_, rfl, ⟨⟨_, _, rfl⟩, h1.out, h2.out⟩, h3.out, h4.out⟩

end Go.Proofs.Ytjcnhpnadfhjaaa
