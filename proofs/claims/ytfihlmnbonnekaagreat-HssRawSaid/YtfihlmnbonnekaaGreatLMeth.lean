/- lms: Public, Node, Sign. -/
import Derived.Test.YtfihlmnbonnekaaGreatLGrow
namespace Go.Proofs.YtfihlmnbonnekaaGreat
open Go.RowKit

/-- a buffer that a call has made, in a region that draws its order -/
def BufR (B : Nat) (xs : List Int) : World → Value → Prop := fun w v => ∃ wb : World, B ≤ wb.heap.size ∧ Buf 5 .u8 wb w [] v xs
theorem BufR.mono (B : Nat) (xs : List Int) : Mono (BufR B xs) := fun _ _ _ h ⟨wb, h1, h2⟩ => ⟨wb, h1, h2.call0 h⟩
theorem BufR.new {B : Nat} {xs : List Int} {w : World} {v : Value} (h : BufR B xs w v) : NewS B v := by
  obtain ⟨wb, h1, h2⟩ := h
  exact fun j hj => Nat.le_trans h1 (h2.new j hj)
theorem BufR.old {B : Nat} {xs : List Int} {w : World} {v : Value} (h : BufR B xs w v) : Old w v xs := by
  obtain ⟨wb, h1, h2⟩ := h
  exact ⟨h2.bytesAt, h2.lt⟩

/-- a tree that is made stands there -/
def TreeAt (w : World) (b : Nat) (id seed : List Int) (k : Nat) : Prop := w.heap[b]? = some (.cells (fullT id seed k).toArray 74 (0, 0))
section
variable {w w' : World} {b : Nat} {id seed : List Int} {k : Nat} {L : List Ent}
theorem TreeAt.mv (h : TreeAt w b id seed k) (ho : Own w w' L) (hn : ∀ k ∈ L.map (·.1), w.heap.size ≤ k) : TreeAt w' b id seed k := by
  have hb : b < w.heap.size := (Array.getElem?_eq_some_iff.1 h).1
  unfold TreeAt
  rw [ho.keep b hb (fun hm => by have := hn b hm; omega)]
  exact h
theorem TreeAt.own (h : TreeAt w b id seed k) : Own w w [(b, fullT id seed k, 74)] := Own.one h
theorem TreeAt.of (h : Own w w' [(b, fullT id seed k, 74)]) : TreeAt w' b id seed k := h.here _ _ _ (.head _)
theorem TreeAt.kc (h : TreeAt w b id seed k) (h16 : id.length = 16) (h32 : seed.length = 32) : w.cell? ⟨b, 48, none⟩ = some (.int .i64 k) := (h.own.cell (.head _) 48).trans (tg_k (by rw [List.length_append]; omega))
theorem TreeAt.sc (h : TreeAt w b id seed k) : ∀ j v, (u8s (id ++ seed))[j]? = some v → w.cell? ⟨b, 0 + j, none⟩ = some v := fun j v hj => by rw [h.own.cell (.head _), Nat.zero_add]; exact tg_s hj
theorem TreeAt.nc (h : TreeAt w b id seed k) (h16 : id.length = 16) (h32 : seed.length = 32) {r : Nat} (h0 : 0 < r) (h64 : r < 64) : ∀ j v, (u8s (nodeOf id seed k r))[j]? = some v → w.cell? ⟨b, 52 + 32 * r + j, none⟩ = some v := fun j v hj => by
  rw [h.own.cell (.head _), Nat.add_assoc]
  exact tg_n (by rw [List.length_append]; omega) (tbl_at (length_nodeOf id seed k) h0 h64 hj)
theorem TreeAt.node (h : TreeAt w b id seed k) (h16 : id.length = 16) (h32 : seed.length = 32) {r : Nat} (h0 : 0 < r) (h64 : r < 64) : BIn (nodeOf id seed k r) w (.slice (some ⟨b, 52 + 32 * r, none⟩) 32 32) :=
  h.own.binAt (.head _) (fun j v hj => by rw [← h.own.cell (.head _)]; exact h.nc h16 h32 h0 h64 j v hj) (length_nodeOf id seed k r).symm (by omega)
end

theorem path_r {q i : Nat} (hq : q < 32) (hi : i < 5) : 2 ≤ (q + 32) / 2 ^ i ∧ (q + 32) / 2 ^ i < 64 ∧ (q + 32) / 2 ^ i / 2 = (q + 32) / 2 ^ (i + 1) := by
  match i, hi with
  | 0, _ => refine ⟨by omega, by omega, by omega⟩
  | 1, _ => refine ⟨by omega, by omega, by omega⟩
  | 2, _ => refine ⟨by omega, by omega, by omega⟩
  | 3, _ => refine ⟨by omega, by omega, by omega⟩
  | 4, _ => refine ⟨by omega, by omega, by omega⟩
theorem path_end {q : Nat} (hq : q < 32) : (q + 32) / 2 ^ 5 = 1 := by omega
/-- bytes, with a code that says all went right -/
def TupB (n : Nat) (xs : List Int) : World → Value → Prop := fun w v => ∃ p c, v = .tuple #[.slice p n c, .int .i64 0] ∧ Old w (.slice p n c) xs
theorem TupB.mono (n : Nat) (xs : List Int) : Mono (TupB n xs) := fun _ _ _ h ⟨p, c, h1, h2⟩ => ⟨p, c, h1, h2.mv h (by simp)⟩
/-- the slice of them -/
def SlB (n : Nat) (xs : List Int) : World → Value → Prop := fun w v => ∃ p c, v = .slice p n c ∧ Old w (.slice p n c) xs
theorem SlB.mono (n : Nat) (xs : List Int) : Mono (SlB n xs) := fun _ _ _ h ⟨p, c, h1, h2⟩ => ⟨p, c, h1, h2.mv h (by simp)⟩

end Go.Proofs.YtfihlmnbonnekaaGreat
