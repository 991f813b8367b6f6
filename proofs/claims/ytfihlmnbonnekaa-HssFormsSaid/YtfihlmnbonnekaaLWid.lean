/- lms: Width, Form. -/
import Derived.Test.YtfihlmnbonnekaaLMeth
namespace Go.Proofs.Ytfihlmnbonnekaa
open Go.RowKit

/-- the width that a length, a typecode and a typecode of digits tell -/
def widthV (n : Nat) (t d : Int) : Nat := if n = 56 ∧ t = 5 then (if d = 1 then 1 else if d = 2 then 2 else if d = 3 then 4 else if d = 4 then 8 else 0) else 0
def widthL (bs : List Int) : Nat := widthV bs.length (num4V bs false) (num4V (num4X bs false) (num4W bs false))
/-- the width number j is told -/
def HitW (n : Nat) (t d : Int) (j : Nat) : Prop := n = 56 ∧ t = 5 ∧ d = codeOf (wOf j)
theorem width_hit {n i : Nat} {t d : Int} (hn : n = 56) (ht : t = 5) (hi : i < 4) (hd : d = codeOf (wOf i)) : ((widthV n t d : Nat) : Int) = wOf i := by
  subst hn ht hd
  match i, hi with
  | 0, _ => rfl
  | 1, _ => rfl
  | 2, _ => rfl
  | 3, _ => rfl
theorem width_miss {n : Nat} {t d : Int} (h : ∀ j, j < 4 → ¬ HitW n t d j) : widthV n t d = 0 := by
  unfold widthV
  by_cases h1 : n = 56 ∧ t = 5
  · rw [if_pos h1]
    have h0 : d ≠ 1 := fun e => h 0 (by omega) ⟨h1.1, h1.2, e⟩
    have h2 : d ≠ 2 := fun e => h 1 (by omega) ⟨h1.1, h1.2, e⟩
    have h3 : d ≠ 3 := fun e => h 2 (by omega) ⟨h1.1, h1.2, e⟩
    have h4 : d ≠ 4 := fun e => h 3 (by omega) ⟨h1.1, h1.2, e⟩
    rw [if_neg h0, if_neg h2, if_neg h3, if_neg h4]
  · rw [if_neg h1]
theorem widthV_cases (n : Nat) (t d : Int) : widthV n t d = 0 ∨ (n = 56 ∧ t = 5 ∧ (widthV n t d = 1 ∨ widthV n t d = 2 ∨ widthV n t d = 4 ∨ widthV n t d = 8) ∧ d = cdN (widthV n t d)) := by
  unfold widthV
  by_cases h : n = 56 ∧ t = 5
  · rw [if_pos h]
    by_cases h1 : d = 1
    · subst h1; exact Or.inr ⟨h.1, h.2, by simp, rfl⟩
    by_cases h2 : d = 2
    · subst h2; exact Or.inr ⟨h.1, h.2, by simp, rfl⟩
    by_cases h3 : d = 3
    · subst h3; exact Or.inr ⟨h.1, h.2, by simp, rfl⟩
    by_cases h4 : d = 4
    · subst h4; exact Or.inr ⟨h.1, h.2, by simp, rfl⟩
    rw [if_neg h1, if_neg h2, if_neg h3, if_neg h4]
    exact Or.inl rfl
  · rw [if_neg h]
    exact Or.inl rfl
theorem RdAt.start {w w1 : World} {r c : Nat} {p : Option Addr} {bs : List Int} (h1 : BIn bs w1 (.slice p bs.length c)) (h2 : ∀ k, blk (Value.slice p bs.length c) = some k → k ≠ r ∧ w.heap.size ≤ k) : RdAt w1 r (w.heap.size ≤ ·) bs false [.slice p bs.length c, .bool false] :=
  ⟨p, c, rfl, h1.2.1, fun k hk => ⟨(h2 k hk).1, (h2 k hk).2, h1.2.2 k hk⟩⟩
theorem num4X_bytes {xs : List Int} (h : IsBytes xs) (b : Bool) : IsBytes (num4X xs b) := by unfold num4X; split; exact h; exact isBytes_drop h 4
theorem num4X_len (xs : List Int) (b : Bool) : (num4X xs b).length ≤ xs.length := by unfold num4X; split; omega; rw [List.length_drop]; omega

set_option maxRecDepth 100000 in
set_option maxHeartbeats 8000000 in
theorem width_any (w : World) (v : Value) (bs : List Int) (hO : Old w v bs) (hb : IsBytes bs) (hl : bs.length ≤ 1000000) :
    Calls Try.prog 49 #[v] w fun e w' => e = .returned (.int .i64 (widthL bs : Nat)) ∧ Own w w' [] := by
  have hnew := Lib.hid (rnew_any w v bs hO hl)
  have hsh := hO.shape
  obtain ⟨pv, cv, e1⟩ := hsh
  subst e1
  have hb' := Lib.hid hb
  have hl' := Lib.hid hl
  have hx' := Lib.hid (num4X_bytes hb false)
  have hxl : Hid ((num4X bs false).length ≤ 1000000) := Nat.le_trans (num4X_len bs false) hl
  obtain ⟨T, hT⟩ : ∃ t, t = num4V bs false := ⟨_, rfl⟩
  obtain ⟨D, hD⟩ : ∃ t, t = num4V (num4X bs false) (num4W bs false) := ⟨_, rfl⟩
  have hn1 : Hid (∀ w1 r cs, Own w w1 [(r, cs, 132)] → RdAt w1 r (w.heap.size ≤ ·) bs false cs → Calls Try.prog 51 #[.pointer (some ⟨r, 0, none⟩), .int .i64 4] w1 fun e w' => e = .returned (.int .u64 T) ∧ ∃ cs', RdAt w' r (w.heap.size ≤ ·) (num4X bs false) (num4W bs false) cs' ∧ Own w w' [(r, cs', 132)]) := fun w1 r cs h1 h2 => by
    rw [hT]
    exact rdNum_any w w1 r _ bs false cs [] h1 h2 hb'.out hl'.out
  have hn2 : Hid (∀ w1 r cs, Own w w1 [(r, cs, 132)] → RdAt w1 r (w.heap.size ≤ ·) (num4X bs false) (num4W bs false) cs → Calls Try.prog 51 #[.pointer (some ⟨r, 0, none⟩), .int .i64 4] w1 fun e w' => e = .returned (.int .u64 D) ∧ ∃ cs', Own w w' [(r, cs', 132)]) := fun w1 r cs h1 h2 => by
    rw [hD]
    exact (rdNum_any w w1 r _ _ _ cs [] h1 h2 hx'.out hxl.out).mono fun _ _ ⟨h3, cs', _, h4⟩ => ⟨h3, cs', h4⟩
  have hW : Hid (widthL bs = widthV bs.length T D) := by show _ = _; rw [hT, hD]; rfl
  obtain ⟨W, hW0⟩ : ∃ W, W = widthL bs := ⟨_, rfl⟩
  rw [← hW0] at hW ⊢
  obtain ⟨n, hn⟩ : ∃ n, n = bs.length := ⟨_, rfl⟩
  have hnew' : Hid (Calls Try.prog 50 #[.slice pv n cv] w fun e w' => ∃ r cs, e = .returned (.pointer (some ⟨r, 0, none⟩)) ∧ w.heap.size ≤ r ∧ RdAt w' r (w.heap.size ≤ ·) bs false cs ∧ Own w w' [(r, cs, 132)]) := by
    rw [hn]
    exact hnew.out.mono fun _ _ ⟨r, p, c, h1, h2, h3, h4, h5⟩ => ⟨r, _, h1, h2, RdAt.start h3 h4, h5⟩
  rw [← hn] at hW ⊢
  have hcode := Lib.hid (fun w' i => code_any w' (wOf i))
  have hcr : Hid (∀ i, 0 ≤ codeOf (wOf i) ∧ codeOf (wOf i) < 9) := fun i => by
    unfold wOf
    split <;> decide
  clear hO hb hl hnew hb' hl' hx' hxl hT hD hW0 hn
  go_enter Try.func49, Try.ntmps49
  have tok1 : True := trivial
  go_wp2_with (first
    | (clear tok1; go_at_call 50; refine hnew'.out.mono ?_; rintro e w1 ⟨r, cs, rfl, hr, R, H⟩; have tok2 : True := trivial)
    | (clear tok2; go_at_call 51; refine (hn1.out _ r _ H R).mono ?_; rintro e w2 ⟨rfl, cs2, R2, H2⟩; clear H R; have tok3 : True := trivial)
    | (clear tok3; go_at_call 51; refine (hn2.out _ r _ H2 R2).mono ?_; rintro e w3 ⟨rfl, cs3, H3⟩; clear H2 R2; have tok4 : True := trivial)
    | (clear tok4; go_at_call 79; refine (types_any _).mono ?_; rintro e w4 ⟨tb, tc, rfl, hty, h3⟩; have H := (H3.call0 h3).end0 (by simpa using hr); have hty' := Lib.hid hty; clear H3 h3 hty hnew' hn1 hn2))
  have H4 := Lib.hid H
  clear H
  go_loopw [7, 16] (fun _ v16 wr => ∃ i : Nat, i ≤ 4 ∧ v16 = .int .i64 ((i : Nat) : Int) ∧ (∀ j, j < i → ¬ HitW n T D j) ∧ Own w4 wr []) (fun _ v16 _ => ((4 : Int) - intOf v16).toNat)
  case atStart => exact ⟨0, by omega, rfl, fun j hj => by omega, Own.refl w4⟩
  case round =>
    obtain ⟨i, hi, rfl, hno, H⟩ := hrel
    have hno' := Lib.hid hno
    clear hno
    by_cases hin : i < 4
    · have hcell : Hid (wr.cell? ⟨tb, i, none⟩ = some (.int .i64 (wOf i))) := hty'.out wr H i hin
      have hmiss : Hid (¬ (n = 56 ∧ T = 5 ∧ D = codeOf (wOf i)) → ∀ j, j < i + 1 → ¬ HitW n T D j) := fun h j hj => by
        rcases Nat.lt_or_ge j i with h1 | h1
        · exact hno'.out j h1
        · obtain rfl : j = i := by omega
          exact h
      have hhit : Hid (n = 56 → T = 5 → D = codeOf (wOf i) → (W : Int) = wOf i) := fun h1 h2 h3 => by rw [hW.out]; exact width_hit h1 h2 hin h3
      have hc1 := Lib.hid (fun w' => hcode.out w' i)
      obtain ⟨hc2, hc3⟩ := hcr.out i
      obtain ⟨ci, hci⟩ : ∃ c, c = codeOf (wOf i) := ⟨_, rfl⟩
      rw [← hci] at hc1 hc2 hc3 hmiss hhit
      obtain ⟨wi, hwi⟩ : ∃ c, c = wOf i := ⟨_, rfl⟩
      rw [← hwi] at hcell hc1 hhit
      clear hci hwi
      by_cases hA : n = 56 ∧ T = 5
      · obtain ⟨h1, h2⟩ := hA
        by_cases h3 : D = ci
        · have hh := Lib.hid (hhit.out h1 h2 h3)
          have e3 : (D == ci) = true := by rw [beq_iff_eq]; exact h3
          clear hhit hmiss h3
          subst h1 h2
          have tok5 : True := trivial
          go_wp2_with (first
            | (refine st_val rfl (rn_cell rfl rfl rfl rfl hcell.out) ?_)
            | (clear tok5; go_at_call 62; refine (hc1.out _).mono ?_; rintro e w5 ⟨rfl, h3⟩; have H2 := H.call0 h3; clear H h3; have H := H2; clear H2))
          have HE := Lib.hid (H4.out.trans H)
          clear H
          go_ret
          exact ⟨by rw [hh.out]; rfl, HE.out⟩
        · have hm := Lib.hid (hmiss.out (fun h => h3 h.2.2))
          have e3 : (D == ci) = false := by rw [beq_eq_false_iff_ne]; exact h3
          clear hhit hmiss
          subst h1 h2
          have tok5 : True := trivial
          go_wp2_with (first
            | (refine st_val rfl (rn_cell rfl rfl rfl rfl hcell.out) ?_)
            | (clear tok5; go_at_call 62; refine (hc1.out _).mono ?_; rintro e w5 ⟨rfl, h3⟩; have H2 := H.call0 h3; clear H h3; have H := H2; clear H2))
          exact ⟨⟨i + 1, by omega, by go_num, hm.out, H⟩, by simp [intOf]; omega⟩
      · have hm := Lib.hid (hmiss.out (fun h => hA ⟨h.1, h.2.1⟩))
        clear hhit hmiss
        by_cases h1 : n = 56
        · have h2 : ¬ T = 5 := fun h => hA ⟨h1, h⟩
          have e2 : (T == 5) = false := by rw [beq_eq_false_iff_ne]; exact h2
          clear hA
          subst h1
          go_wp2_with (refine st_val rfl (rn_cell rfl rfl rfl rfl hcell.out) ?_)
          exact ⟨⟨i + 1, by omega, by go_num, hm.out, H⟩, by simp [intOf]; omega⟩
        · have e1 : ((n : Int) == 56) = false := by rw [beq_eq_false_iff_ne]; omega
          have e2 : ¬ (n : Int) = 56 := by omega
          clear hA
          go_wp2_with (refine st_val rfl (rn_cell rfl rfl rfl rfl hcell.out) ?_)
          exact ⟨⟨i + 1, by omega, by go_num, hm.out, H⟩, by simp [intOf]; omega⟩
    · obtain rfl : i = 4 := by omega
      have hk := hW.out.trans (width_miss hno'.out)
      subst hk
      have HE := Lib.hid (H4.out.trans H)
      clear H
      go_wp2_with fail
      go_ret
      exact ⟨rfl, HE.out⟩

theorem form_any (w : World) (v : Value) (bs : List Int) (hO : Old w v bs) (hb : IsBytes bs) (hl : bs.length ≤ 1000000) :
    Calls Try.prog 25 #[v] w fun e w' => e = .returned (.bool (decide (0 < widthL bs))) ∧ Own w w' [] := by
  have hw := Lib.hid (width_any w v bs hO hb hl)
  obtain ⟨W, hW⟩ : ∃ W, W = widthL bs := ⟨_, rfl⟩
  rw [← hW] at hw ⊢
  clear hW hO hb hl
  go_enter Try.func25, Try.ntmps25
  go_wp2_with (go_at_call 49; refine hw.out.mono ?_; rintro e w1 ⟨rfl, H⟩)
  go_ret
  exact ⟨by simp, H⟩

end Go.Proofs.Ytfihlmnbonnekaa
