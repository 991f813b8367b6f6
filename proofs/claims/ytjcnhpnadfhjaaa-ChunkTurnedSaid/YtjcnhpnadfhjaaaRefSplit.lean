/- The reference's Split. -/
import Derived.Test.YtjcnhpnadfhjaaaRefJoin
namespace Go.Proofs.Ytjcnhpnadfhjaaa
open Go.RowKit

/-- the pieces of bytes -/
def pc (bs : List Int) (i : Nat) : List Int := (bs.drop (256 * i)).take 256
def pcs (bs : List Int) (k : Nat) : List (List Int) := (List.range k).map (pc bs)
def np (n : Nat) : Nat := (n + 255) / 256

theorem pcs_succ (bs : List Int) (k : Nat) : pcs bs (k + 1) = pcs bs k ++ [pc bs k] := by simp [pcs, List.range_succ]
theorem length_pcs (bs : List Int) (k : Nat) : (pcs bs k).length = k := by simp [pcs]
theorem pc_eq {bs : List Int} {i m : Nat} (hm : m = min 256 (bs.length - 256 * i)) : (bs.drop (256 * i)).take m = pc bs i := by
  subst hm
  unfold pc
  rw [List.take_eq_take_iff, List.length_drop]
  omega

theorem elem_sl : Elem Try.prog 25 1 24 := Elem.of (by kernel_rfl) (by decide)

/-- slices of old bytes in a row -/
def Row (w : World) (bs : List Int) (i : Nat) (ls : List (Value × List Int)) : Prop :=
  ls.length = i ∧ ls.map (·.2) = pcs bs i ∧ ∀ x ∈ ls, Old w x.1 x.2 ∧ (∃ p c, x.1 = .slice p x.2.length c) ∧ ∀ j, j < x.2.length → 0 ≤ x.2[j]?.getD 0 ∧ x.2[j]?.getD 0 < 256

theorem Row.nil (w : World) (bs : List Int) : Row w bs 0 [] := ⟨rfl, rfl, by simp⟩
theorem Row.snoc {w : World} {bs : List Int} {i : Nat} {ls : List (Value × List Int)} (h : Row w bs i ls) {v : Value} {xs : List Int} (hx : xs = pc bs i) (ho : Old w v xs) (hs : ∃ p c, v = .slice p xs.length c) (hr : ∀ j, j < xs.length → 0 ≤ xs[j]?.getD 0 ∧ xs[j]?.getD 0 < 256) : Row w bs (i + 1) (ls ++ [(v, xs)]) := by
  subst hx
  refine ⟨by simp [h.1], by rw [List.map_append, h.2.1, pcs_succ]; rfl, fun x hx => ?_⟩
  rcases List.mem_append.1 hx with hx | hx
  · exact h.2.2 x hx
  · simp at hx; subst hx; exact ⟨ho, hs, hr⟩
theorem Row.oldL {w w1 : World} {bs : List Int} {i : Nat} {ls : List (Value × List Int)} {v : Value} (h : Row w bs i ls) (hs : SlAt w1 v i (ls.map (·.1))) (hlt : ∀ k, blk v = some k → k < w1.heap.size) {L : List Ent} (ho : Own w w1 L) (hn : ∀ k ∈ L.map (·.1), w.heap.size ≤ k) : OldL w1 v ls := by
  refine ⟨by rw [h.1]; exact hs, hlt, fun j x hx => ?_⟩
  obtain ⟨h1, h2, h3⟩ := h.2.2 x (List.mem_of_getElem? hx)
  exact ⟨h1.mv ho hn, h2, h3⟩

theorem range_sub {xs : List Int} (h : ∀ j, j < xs.length → 0 ≤ xs[j]?.getD 0 ∧ xs[j]?.getD 0 < 256) (l m : Nat) : ∀ j, j < ((xs.drop l).take m).length → 0 ≤ ((xs.drop l).take m)[j]?.getD 0 ∧ ((xs.drop l).take m)[j]?.getD 0 < 256 := by
  intro j hj
  rw [List.length_take, List.length_drop] at hj
  have := h (l + j) (by omega)
  rw [List.getElem?_take, if_pos (by omega), List.getElem?_drop]
  exact this

set_option maxRecDepth 100000 in
set_option maxHeartbeats 2000000 in
theorem refSplit_any (w : World) (v : Value) (bs : List Int) (hO : Old w v bs) (hr : ∀ j, j < bs.length → 0 ≤ bs[j]?.getD 0 ∧ bs[j]?.getD 0 < 256) (hl : bs.length ≤ 1000000) :
    Calls Try.prog 11 #[v] w fun e w' => ∃ r ls, e = .returned r ∧ OldL w' r ls ∧ ls.map (·.2) = pcs bs (np bs.length) ∧ Own w w' [] := by
  have H := Own.refl w
  obtain ⟨p0, c0, rfl⟩ := hO.shape
  obtain ⟨n, hn⟩ : ∃ n, n = bs.length := ⟨_, rfl⟩
  rw [← hn] at hO hl ⊢
  have O := Lib.hid hO
  have hr' := Lib.hid hr
  have hn' := Lib.hid hn
  clear hO hr hn
  have B0 : BufV 25 1 w w [] (.slice none 0 0) 0 [] := BufV.nil H
  clear H
  go_enter Try.func11, Try.ntmps11
  go_wp2_with fail
  go_loopw [3, 4] (fun v3 v4 wr => ∃ i p c ls, 256 * i ≤ n + 255 ∧ v4 = .int .i64 (256 * (i : Int)) ∧ v3 = .slice p i c ∧ Row w bs i ls ∧ BufV 25 1 w wr [] v3 i (ls.map (·.1))) (fun _ v4 _ => ((n : Int) + 300 - intOf v4).toNat)
  case atStart => exact ⟨0, none, 0, [], by omega, rfl, rfl, Row.nil w bs, B0⟩
  case round =>
    clear B0
    obtain ⟨i, p, c, ls, hi, rfl, rfl, hrow, B⟩ := hrel
    by_cases hin : 256 * i < n
    · have hrow' := Lib.hid hrow
      have hib : i ≤ 4000 := by omega
      clear hrow
      by_cases hfull : 256 * i + 256 ≤ n
      · have hpc : Hid ((bs.drop (256 * i)).take 256 = pc bs i) := rfl
        have hlen : Hid (((bs.drop (256 * i)).take 256).length = 256) := by show _ = _; rw [List.length_take, List.length_drop, ← hn'.out]; omega
        go_wp2_with (first
          | (refine st_slEx rfl (rn_sub (w := w) (m := 256) (sv := .slice p0 n c0) (n := n) (xs := u8s bs) (l := 256 * i) (h := 256 * i + 256) rfl rfl size_u8 rfl (by have := O.out.1; rw [BytesAt, ← hn'.out] at this; exact this) (by rw [length_ints]; exact hn'.out.symm) (by exact .is rfl rfl (by omega)) (by exact .is rfl rfl (by omega)) (by omega) (by omega) (by omega)) ?_; intro p5 c5 hb5; have O5 : Hid (Old w (.slice p5 256 c5) ((bs.drop (256 * i)).take 256)) := O.out.sub hb5 hlen.out; clear hb5)
          | (refine st_litV rfl B rfl (ds := [.slice p5 256 c5]) (el := 25) (fun w' => by kernel_rfl) ?_; clear B; intro b2 w5 hb2 B)
          | (refine st_appV (m := 1) (ds := [.slice p5 256 c5]) rfl B elem_sl rfl rfl rfl rfl (B.litAt (.head _) (by omega)) rfl (by simp; rfl) (by omega) (by omega) ?_; clear B; intro p6 c6 w6 B; have B2 := B.pop hb2; clear B; have B := B2; clear B2))
        exact ⟨⟨i + 1, _, _, ls ++ [(_, _)], by omega, by go_num, rfl, hrow'.out.snoc hpc.out O5.out ⟨p5, c5, by rw [hlen.out]⟩ (range_sub hr'.out _ _), by rw [List.map_append]; exact B⟩, by simp [intOf]; omega⟩
      · obtain ⟨m, hm⟩ : ∃ m, m = n - 256 * i := ⟨_, rfl⟩
        have hm1 : m ≤ 256 := by omega
        have hmB := Lib.hid hm
        have hpc : Hid ((bs.drop (256 * i)).take m = pc bs i) := pc_eq (by rw [← hn'.out]; omega)
        have hlen : Hid (((bs.drop (256 * i)).take m).length = m) := by show _ = _; rw [List.length_take, List.length_drop, ← hn'.out]; omega
        clear hm
        go_wp2_with (first
          | (refine st_slEx rfl (rn_sub (w := w) (m := m) (sv := .slice p0 n c0) (n := n) (xs := u8s bs) (l := 256 * i) (h := 256 * i + m) rfl rfl size_u8 rfl (by have := O.out.1; rw [BytesAt, ← hn'.out] at this; exact this) (by rw [length_ints]; exact hn'.out.symm) (by exact .is rfl rfl (by omega)) (by exact .is rfl rfl (by have := hmB.out; omega)) (by omega) (by have := hmB.out; omega) (by omega)) ?_; intro p5 c5 hb5; have O5 : Hid (Old w (.slice p5 m c5) ((bs.drop (256 * i)).take m)) := O.out.sub hb5 hlen.out; clear hb5)
          | (refine st_litV rfl B rfl (ds := [.slice p5 m c5]) (el := 25) (fun w' => by kernel_rfl) ?_; clear B; intro b2 w5 hb2 B)
          | (refine st_appV (m := 1) (ds := [.slice p5 m c5]) rfl B elem_sl rfl rfl rfl rfl (B.litAt (.head _) (by omega)) rfl (by simp; rfl) (by omega) (by omega) ?_; clear B; intro p6 c6 w6 B; have B2 := B.pop hb2; clear B; have B := B2; clear B2))
        exact ⟨⟨i + 1, _, _, ls ++ [(_, _)], by have := hmB.out; omega, by go_num, rfl, hrow'.out.snoc hpc.out O5.out ⟨p5, c5, by rw [hlen.out]⟩ (range_sub hr'.out _ _), by rw [List.map_append]; exact B⟩, by simp [intOf]; omega⟩
    · have hk : Hid (i = np n) := by show _ = _; unfold np; omega
      have hrow' := Lib.hid hrow
      clear hrow
      go_wp2_with fail
      have g1 := Lib.hid B.slAt
      have g2 := Lib.hid B.lt
      have g3 := Lib.hid B.own0
      clear B
      go_ret
      exact ⟨_, ls, rfl, hrow'.out.oldL g1.out g2.out g3.out (by simp), by rw [hrow'.out.2.1, hk.out], g3.out⟩

end Go.Proofs.Ytjcnhpnadfhjaaa
