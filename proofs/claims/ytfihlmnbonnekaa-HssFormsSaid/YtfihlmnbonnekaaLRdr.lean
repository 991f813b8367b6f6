/- pack.Reader: what it does once it is wrong, or where too few bytes are left. -/
import Derived.Test.YtfihlmnbonnekaaPrgB
namespace Go.Proofs.Ytfihlmnbonnekaa
open Go.RowKit

theorem Own.next {w0 w w' : World} {L L' M : List Ent} (H : Own w0 w (L ++ M)) (h : Own w w' L') (hk : L'.map (·.1) = L.map (·.1)) : Own w0 w' (L' ++ M) :=
  H.call ⟨h, fun k hk' => Or.inl (by rw [← hk]; exact hk')⟩ (fun k hk' => Or.inl (by rw [hk]; exact hk'))

set_option maxRecDepth 100000 in
set_option maxHeartbeats 4000000 in
theorem right_bad (w : World) (r n c m : Nat) (p : Option Addr) (wr : Bool) (H0 : Own w w [(r, [.slice p n c, .bool wr], 132)]) (hm : wr = true ∨ n < m) :
    Calls Try.prog 80 #[.pointer (some ⟨r, 0, none⟩), .int .i64 m] w fun e w' => e = .returned (.bool false) ∧ Own w w' [(r, [.slice p n c, .bool true], 132)] := by
  have H := H0
  have h0 : w.cell? ⟨r, 0, none⟩ = some (.slice p n c) := H.cell (.head _) 0
  have h1 : w.cell? ⟨r, 1, none⟩ = some (.bool wr) := H.cell (.head _) 1
  clear H0
  cases wr with
  | true =>
    clear hm
    go_enter Try.func80, Try.ntmps80
    go_wp2_with (first
      | (refine st_skip rfl (rn_store (v := .bool true) H rfl rfl rfl (by kernel_rfl) .head (by simp) rfl) ?_; clear H; intro w1 H)
      | (refine st_val rfl (rn_load (i := 1) H rfl rfl (.head _) rfl rfl rfl) ?_))
    have h2 := Lib.hid H
    go_ret
    exact ⟨rfl, h2.out⟩
  | false =>
    have hd : Hid ((decide ((m : Int) < 0) || decide (n < m)) = true) := by
      show _ = _
      rcases hm with hm | hm
      · cases hm
      · rw [decide_eq_true hm, Bool.or_true]
    clear hm
    go_enter Try.func80, Try.ntmps80
    go_wp2_with (first
      | (refine st_skip rfl (rn_store (v := .bool (decide ((m : Int) < 0) || decide (n < m))) H rfl rfl rfl (by kernel_rfl) .head (by simp) rfl) ?_; clear H; intro w1 H; rw [hd.out] at H)
      | (refine st_val rfl (rn_load (i := 1) H rfl rfl (.head _) rfl rfl rfl) ?_))
    have h2 := Lib.hid H
    go_ret
    exact ⟨rfl, h2.out⟩

theorem rnum4_bad (w : World) (r n c : Nat) (p : Option Addr) (wr : Bool) (H0 : Own w w [(r, [.slice p n c, .bool wr], 132)]) (hm : wr = true ∨ n < 4) :
    Calls Try.prog 51 #[.pointer (some ⟨r, 0, none⟩), .int .i64 4] w fun e w' => e = .returned (.int .u64 0) ∧ Own w w' [(r, [.slice p n c, .bool true], 132)] := by
  have hri := Lib.hid (right_bad w r n c 4 p wr H0 hm)
  clear H0 hm
  go_enter Try.func51, Try.ntmps51
  go_wp2_with (go_at_call 80; refine hri.out.mono ?_; rintro e w1 ⟨rfl, H⟩)
  go_ret
  exact ⟨rfl, H⟩
theorem rraw_bad (w : World) (r n c m : Nat) (p : Option Addr) (wr : Bool) (H0 : Own w w [(r, [.slice p n c, .bool wr], 132)]) (hm : wr = true ∨ n < m) :
    Calls Try.prog 52 #[.pointer (some ⟨r, 0, none⟩), .int .i64 m] w fun e w' => e = .returned (.slice none 0 0) ∧ Own w w' [(r, [.slice p n c, .bool true], 132)] := by
  have hri := Lib.hid (right_bad w r n c m p wr H0 hm)
  clear H0 hm
  go_enter Try.func52, Try.ntmps52
  go_wp2_with (go_at_call 80; refine hri.out.mono ?_; rintro e w1 ⟨rfl, H⟩)
  go_ret
  exact ⟨rfl, H⟩

/-- what a reader has left; whether it is wrong; of the block in which that lies, B -/
def RdAt (w : World) (r : Nat) (B : Nat → Prop) (xs : List Int) (wr : Bool) (cs : List Value) : Prop := ∃ p c, cs = [.slice p xs.length c, .bool wr] ∧ BytesAt w (.slice p xs.length c) xs ∧ ∀ k, blk (Value.slice p xs.length c) = some k → k ≠ r ∧ B k ∧ k < w.heap.size
theorem RdAt.mv {w w' : World} {r : Nat} {B : Nat → Prop} {xs : List Int} {wr : Bool} {cs : List Value} (h : RdAt w r B xs wr cs) (ho : Own w w' []) : RdAt w' r B xs wr cs := by
  obtain ⟨p, c, h1, h2, h3⟩ := h
  exact ⟨p, c, h1, SlAt.own0 h2 ho, fun k hk => ⟨(h3 k hk).1, (h3 k hk).2.1, Nat.lt_of_lt_of_le (h3 k hk).2.2 ho.size⟩⟩
theorem RdAt.of {w : World} {r : Nat} {B B' : Nat → Prop} {xs : List Int} {wr : Bool} {cs : List Value} (h : RdAt w r B xs wr cs) (hB : ∀ k, k < w.heap.size → B k → B' k) : RdAt w r B' xs wr cs := by
  obtain ⟨p, c, h1, h2, h3⟩ := h
  exact ⟨p, c, h1, h2, fun k hk => ⟨(h3 k hk).1, hB k (h3 k hk).2.2 (h3 k hk).2.1, (h3 k hk).2.2⟩⟩
theorem RdAt.mvG {w w' : World} {r g : Nat} {B : Nat → Prop} {xs : List Int} {wr : Bool} {cs : List Value} {cg : List Value} {T : TypeId} (h : RdAt w r B xs wr cs) (ho : Own w w' [(g, cg, T)]) (hg : ∀ k, B k → k ≠ g) : RdAt w' r B xs wr cs := by
  obtain ⟨p, c, h1, h2, h3⟩ := h
  exact ⟨p, c, h1, SlAt.own h2 ho (fun k hk hm => by simp at hm; exact hg k (h3 k hk).2.1 hm), fun k hk => ⟨(h3 k hk).1, (h3 k hk).2.1, Nat.lt_of_lt_of_le (h3 k hk).2.2 ho.size⟩⟩
theorem RdAt.mvN {w w' : World} {r : Nat} {B : Nat → Prop} {xs : List Int} {wr : Bool} {cs : List Value} {L : List Ent} (h : RdAt w r B xs wr cs) (ho : Own w w' L) (hn : ∀ k ∈ L.map (·.1), w.heap.size ≤ k) : RdAt w' r B xs wr cs := by
  obtain ⟨p, c, h1, h2, h3⟩ := h
  exact ⟨p, c, h1, SlAt.own h2 ho (fun k hk hm => by have := hn k hm; have := (h3 k hk).2.2; omega), fun k hk => ⟨(h3 k hk).1, (h3 k hk).2.1, Nat.lt_of_lt_of_le (h3 k hk).2.2 ho.size⟩⟩
/-- the number that four bytes tell; what is left -/
def num4V (xs : List Int) (wr : Bool) : Int := if wr = true ∨ xs.length < 4 then 0 else beN xs 4
def num4X (xs : List Int) (wr : Bool) : List Int := if wr = true ∨ xs.length < 4 then xs else xs.drop 4
def num4W (xs : List Int) (wr : Bool) : Bool := if wr = true ∨ xs.length < 4 then true else false
theorem rdNum_any (w0 w : World) (r : Nat) (B : Nat → Prop) (xs : List Int) (wr : Bool) (cs : List Value) (L : List Ent) (H : Own w0 w ((r, cs, 132) :: L)) (hR : RdAt w r B xs wr cs) (hb : IsBytes xs) (hl : xs.length ≤ 1000000) :
    Calls Try.prog 51 #[.pointer (some ⟨r, 0, none⟩), .int .i64 4] w fun e w' => e = .returned (.int .u64 (num4V xs wr)) ∧ ∃ cs', RdAt w' r B (num4X xs wr) (num4W xs wr) cs' ∧ Own w0 w' ((r, cs', 132) :: L) := by
  obtain ⟨p, c, rfl, h2, h3⟩ := hR
  unfold num4V num4X num4W
  by_cases h : wr = true ∨ xs.length < 4
  · rw [if_pos h, if_pos h, if_pos h]
    refine (rnum4_bad w r _ c p wr (H.sub1 (.head _)) h).mono ?_
    rintro e w' ⟨h4, h5⟩
    refine ⟨h4, _, ⟨p, c, rfl, SlAt.own h2 h5 (fun k hk hm => by simp at hm; exact (h3 k hk).1 hm), fun k hk => ⟨(h3 k hk).1, (h3 k hk).2.1, Nat.lt_of_lt_of_le (h3 k hk).2.2 h5.size⟩⟩, Own.next (L := [_]) H h5 rfl⟩
  · rw [if_neg h, if_neg h, if_neg h]
    obtain ⟨hw, h4⟩ := not_or.1 h
    have hwr : wr = false := by cases wr <;> simp_all
    subst hwr
    refine (rnum4_any w r _ c p xs (H.sub1 (.head _)) h2 rfl (by omega) hl hb (fun k hk => (h3 k hk).1)).mono ?_
    rintro e w' ⟨h5, p', c', h6, h7, h8⟩
    have e1 : xs.length - 4 = (xs.drop 4).length := by rw [List.length_drop]
    rw [e1] at h6 h7 h8
    exact ⟨h5, _, ⟨p', c', rfl, h7, fun k hk => ⟨(h3 k (h8 k hk)).1, (h3 k (h8 k hk)).2.1, Nat.lt_of_lt_of_le (h3 k (h8 k hk)).2.2 h6.size⟩⟩, Own.next (L := [_]) H h6 rfl⟩

theorem num4V_range {xs : List Int} (h : IsBytes xs) (b : Bool) : 0 ≤ num4V xs b ∧ num4V xs b < 4294967296 := by
  unfold num4V
  split
  · omega
  · have := beN_range h 4 (by omega)
    omega
theorem rdNumOk (w0 w : World) (r : Nat) (B : Nat → Prop) (xs : List Int) (cs : List Value) (L : List Ent) (H : Own w0 w ((r, cs, 132) :: L)) (hR : RdAt w r B xs false cs) (hb : IsBytes xs) (hl : xs.length ≤ 1000000) (h4 : 4 ≤ xs.length) :
    Calls Try.prog 51 #[.pointer (some ⟨r, 0, none⟩), .int .i64 4] w fun e w' => e = .returned (.int .u64 (beN xs 4)) ∧ ∃ cs', (RdAt w' r B (xs.drop 4) false cs' ∧ Own w w' [(r, cs', 132)]) ∧ Own w0 w' ((r, cs', 132) :: L) := by
  obtain ⟨p, c, rfl, h2, h3⟩ := hR
  refine (rnum4_any w r _ c p xs (H.sub1 (.head _)) h2 rfl h4 hl hb (fun k hk => (h3 k hk).1)).mono ?_
  rintro e w' ⟨h5, p', c', h6, h7, h8⟩
  have e1 : xs.length - 4 = (xs.drop 4).length := by rw [List.length_drop]
  rw [e1] at h6 h7 h8
  exact ⟨h5, _, ⟨⟨p', c', rfl, h7, fun k hk => ⟨(h3 k (h8 k hk)).1, (h3 k (h8 k hk)).2.1, Nat.lt_of_lt_of_le (h3 k (h8 k hk)).2.2 h6.size⟩⟩, h6⟩, Own.next (L := [_]) H h6 rfl⟩
/-- the slice lies in no block that is older -/
def NewS (B : Nat) (v : Value) : Prop := ∀ k, blk v = some k → B ≤ k
theorem Old.mvR {w w' : World} {v : Value} {xs : List Int} {r : Nat} {cs : List Value} {T : TypeId} (h : Old w v xs) (hn : NewS (r + 1) v) (ho : Own w w' [(r, cs, T)]) : Old w' v xs :=
  ⟨SlAt.own h.1 ho (fun k hk hm => by simp at hm; have := hn k hk; omega), fun k hk => Nat.lt_of_lt_of_le (h.2 k hk) ho.size⟩
theorem rdRawOk (w0 w : World) (r m : Nat) (B : Nat → Prop) (xs : List Int) (cs : List Value) (L : List Ent) (H : Own w0 w ((r, cs, 132) :: L)) (hR : RdAt w r B xs false cs) (hl : xs.length ≤ 1000000) (hm : m ≤ xs.length) :
    Calls Try.prog 52 #[.pointer (some ⟨r, 0, none⟩), .int .i64 m] w fun e w' => ∃ p c cs', e = .returned (.slice p m c) ∧ Old w' (.slice p m c) (xs.take m) ∧ NewS (r + 1) (.slice p m c) ∧ NewS w.heap.size (.slice p m c) ∧ RdAt w' r B (xs.drop m) false cs' ∧ Own w0 w' ((r, cs', 132) :: L) := by
  obtain ⟨p, c, rfl, h2, h3⟩ := hR
  refine (rraw_any w r _ c m p xs (H.sub1 (.head _)) h2 rfl hm hl (fun k hk => (h3 k hk).1)).mono ?_
  rintro e w' ⟨v, p', c', rfl, hB, h6, h7⟩
  have hs := hB.slice
  obtain ⟨pv, cv, e1⟩ := hs
  subst e1
  have e2 : (xs.take m).length = m := by rw [List.length_take]; omega
  have e3 : xs.length - m = (xs.drop m).length := by rw [List.length_drop]
  have ho := hB.own0
  have hrl := H.lt (.head _)
  have hnw : NewS w.heap.size (.slice pv (xs.take m).length cv) := hB.new
  have hod : Old w' (.slice pv (xs.take m).length cv) (xs.take m) := ⟨hB.bytesAt, hB.lt⟩
  rw [e3] at h6 h7 ho
  rw [e2] at hnw hod
  exact ⟨pv, cv, _, by rw [e2], hod, fun k hk => by have := hnw k hk; omega, hnw, ⟨p', c', rfl, h6, fun k hk => ⟨(h3 k (h7 k hk)).1, (h3 k (h7 k hk)).2.1, Nat.lt_of_lt_of_le (h3 k (h7 k hk)).2.2 ho.size⟩⟩, Own.next (L := [_]) H ho rfl⟩
theorem rdRawTot (w0 w : World) (r m : Nat) (B : Nat → Prop) (xs : List Int) (wr : Bool) (cs : List Value) (L : List Ent) (H : Own w0 w ((r, cs, 132) :: L)) (hR : RdAt w r B xs wr cs) (hl : xs.length ≤ 1000000) :
    Calls Try.prog 52 #[.pointer (some ⟨r, 0, none⟩), .int .i64 m] w fun e w' => ∃ v cs', e = .returned v ∧ Own w0 w' ((r, cs', 132) :: L) := by
  by_cases h : wr = true ∨ xs.length < m
  · obtain ⟨p, c, rfl, h2, h3⟩ := hR
    exact (rraw_bad w r _ c m p wr (H.sub1 (.head _)) h).mono fun _ _ ⟨h4, h5⟩ => ⟨_, _, h4, Own.next (L := [_]) H h5 rfl⟩
  · obtain ⟨hw, h4⟩ := not_or.1 h
    have hwr : wr = false := by cases wr <;> simp_all
    subst hwr
    exact (rdRawOk w0 w r m B xs cs L H hR hl (by omega)).mono fun _ _ ⟨p, c, cs', h5, _, _, _, _, h6⟩ => ⟨_, cs', h5, h6⟩

end Go.Proofs.Ytfihlmnbonnekaa
