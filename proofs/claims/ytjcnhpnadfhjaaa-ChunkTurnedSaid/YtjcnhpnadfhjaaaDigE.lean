/- A digest as one thing that holds bytes. -/
import Derived.Test.YtjcnhpnadfhjaaaShaF
import Derived.Test.YtjcnhpnadfhjaaaAppG
import Derived.Test.YtjcnhpnadfhjaaaOld
namespace Go.Proofs.Ytjcnhpnadfhjaaa
open Go.RowKit

/-- these cells are a digest of these bytes -/
def IsDig (xs : List Int) (cs : List Value) : Prop := ∃ st rest, DigOf xs st rest ∧ cs = digCells st rest xs.length

theorem new_e (w : World) : Calls Try.prog 28 #[] w fun e w' => ∃ d cs, e = .returned (.pointer (some ⟨d, 0, none⟩)) ∧ w.heap.size ≤ d ∧ IsDig [] cs ∧ Own w w' [(d, cs, 67)] :=
  (new_any w).mono fun _ _ ⟨d, h1, h2, h3⟩ => ⟨d, _, h1, h2, ⟨_, _, DigOf.nil, rfl⟩, h3⟩

theorem copy_e (w : World) (d : Nat) (xs : List Int) (cs : List Value) (hd : IsDig xs cs) (H : Own w w [(d, cs, 67)]) :
    Calls Try.prog 34 #[.pointer (some ⟨d, 0, none⟩)] w fun e w' => ∃ c, e = .returned (.pointer (some ⟨c, 0, none⟩)) ∧ w.heap.size ≤ c ∧ Own w w' [(c, cs, 67)] := by
  obtain ⟨st, rest, h, rfl⟩ := hd
  exact copy_any w d st rest xs.length h.2.1 H

theorem write_e (w : World) (d : Nat) (xs bs : List Int) (cs : List Value) (v : Value) (hd : IsDig xs cs) (hN : xs.length ≤ 140737488351232) (hB : bs.length ≤ 140737488351232)
    (H : Own w w [(d, cs, 67)]) (hv : BytesAt w v bs) (hne : ∀ k, blk v = some k → k ≠ d) :
    Calls Try.prog 29 #[.pointer (some ⟨d, 0, none⟩), v] w fun e w' => e = .returned (.tuple #[]) ∧ ∃ cs', IsDig (xs ++ bs) cs' ∧ Own w w' [(d, cs', 67)] := by
  obtain ⟨st, rest, h, rfl⟩ := hd
  refine (write_any w d st rest xs bs v h hN hB H hv hne).mono ?_
  rintro e w' ⟨he, st', rest', h1, h2⟩
  exact ⟨he, _, ⟨st', rest', h1, rfl⟩, by rw [List.length_append]; exact h2⟩

theorem sum_e (w : World) (d : Nat) (xs : List Int) (cs : List Value) (hd : IsDig xs cs) (hN : xs.length ≤ 140737488351232) (H : Own w w [(d, cs, 67)]) :
    Calls Try.prog 30 #[.pointer (some ⟨d, 0, none⟩)] w fun e w' => e = .returned (.agg (u8s (sha xs)).toArray) ∧ Own w w' [] := by
  obtain ⟨st, rest, h, rfl⟩ := hd
  exact sum_any w d st rest xs h hN H

theorem Buf.lt {e : TypeId} {k : IntKind} {w0 w : World} {L : List Ent} {v : Value} {xs : List Int} (h : Buf e k w0 w L v xs) : ∀ j, blk v = some j → j < w.heap.size := by
  obtain ⟨Lv, ⟨_, ⟨rfl, _, _⟩ | ⟨g, cap, cs, rfl, rfl, _⟩⟩, h2, _⟩ := h
  · intro j hj; cases hj
  · intro j hj
    obtain rfl : g = j := (blk_some hj).1
    exact h2.lt (cs := cs) (T := e) (by simp)

/-- a call turns a block that stands further behind -/
theorem Own.callAt {w0 w w' : World} {L1 L2 : List Ent} {b : Nat} {cs cs' : List Value} {T T' : TypeId} (h : Own w0 w (L1 ++ (b, cs, T) :: L2)) (hu : Own w w' [(b, cs', T')]) : Own w0 w' (L1 ++ (b, cs', T') :: L2) :=
  (Own.call1 (h.perm List.perm_middle) hu).perm List.perm_middle.symm

/-- a call that lays a block -/
theorem Own.callNew {w0 w w' : World} {L : List Ent} {b : Nat} {cs : List Value} {T : TypeId} (h : Own w0 w L) (hu : Own w w' [(b, cs, T)]) (hb : w.heap.size ≤ b) : Own w0 w' ((b, cs, T) :: L) :=
  Own.call (L1 := []) (L1' := [(b, cs, T)]) h ⟨hu, by simpa using hb⟩ (by simp)

theorem OldL.addr {w : World} {p : Option Addr} {n c : Nat} {ls : List (Value × List Int)} (h : OldL w (.slice p n c) ls) (hn : 0 < ls.length) : ∃ b off, p = some ⟨b, off, none⟩ := by
  rcases h.sl with ⟨_, h0, _⟩ | ⟨b, off, cap, hv, _, _⟩
  · omega
  · cases hv; exact ⟨b, off, rfl⟩

theorem OldL.cellAt {w w1 : World} {b off n c : Nat} {ls : List (Value × List Int)} {L : List Ent} (h : OldL w (.slice (some ⟨b, off, none⟩) n c) ls) (ho : Own w w1 L) (hn : ∀ k ∈ L.map (·.1), w.heap.size ≤ k) {i : Nat} {x : Value × List Int} (hx : ls[i]? = some x) :
    w1.cell? ⟨b, off + i * 1, none⟩ = some x.1 := by
  have hi := (List.getElem?_eq_some_iff.1 hx).1
  have h1 : SlAt w1 (.slice (some ⟨b, off, none⟩) n c) ls.length (ls.map (·.1)) := SlAt.own h.sl ho (fun j hj hm => by have := h.lt j hj; have := hn j hm; omega)
  rcases h1 with ⟨_, h0, _⟩ | ⟨b', off', cap, hv, _, hc⟩
  · omega
  · cases hv
    rw [Nat.mul_one]
    exact hc i x.1 (by rw [List.getElem?_map, hx]; rfl)

theorem Buf.callNew {e : TypeId} {k : IntKind} {w0 w w' : World} {L : List Ent} {v : Value} {xs : List Int} {b : Nat} {cs : List Value} {T : TypeId} (h : Buf e k w0 w L v xs) (hu : Own w w' [(b, cs, T)]) (hb : w.heap.size ≤ b) : Buf e k w0 w' ((b, cs, T) :: L) v xs := by
  obtain ⟨Lv, h1, h2, h3⟩ := h
  exact ⟨Lv, h1, (h2.callNew hu hb).perm List.perm_middle.symm, h3⟩

theorem Buf.callAt {e : TypeId} {k : IntKind} {w0 w w' : World} {L1 L2 : List Ent} {v : Value} {xs : List Int} {b : Nat} {cs cs' : List Value} {T T' : TypeId} (h : Buf e k w0 w (L1 ++ (b, cs, T) :: L2) v xs) (hu : Own w w' [(b, cs', T')]) : Buf e k w0 w' (L1 ++ (b, cs', T') :: L2) v xs := by
  obtain ⟨Lv, h1, h2, h3⟩ := h
  refine ⟨Lv, h1, ?_, h3⟩
  rw [← List.append_assoc] at h2 ⊢
  exact h2.callAt hu

theorem size_sl : (Try.prog.info? 25).map (·.size) = some 1 := by kernel_rfl

end Go.Proofs.Ytjcnhpnadfhjaaa
