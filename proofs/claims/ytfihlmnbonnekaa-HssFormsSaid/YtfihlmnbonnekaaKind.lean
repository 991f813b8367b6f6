/- ots: the widths, and how digits of a width are. -/
import Derived.Test.YtfihlmnbonnekaaLow2
namespace Go.Proofs.Ytfihlmnbonnekaa
open Go.RowKit

abbrev i64s (xs : List Int) : List Value := ints .i64 xs

theorem info_kinds : ((Try.prog.info? 154).bind (·.zero)).map (fun z => z.cells.toList) = some (i64s (List.replicate 16 0)) := by kernel_rfl
theorem info_kind : ((Try.prog.info? 142).bind (·.zero)).map (fun z => z.cells.toList) = some (i64s [0, 0, 0, 0]) := by kernel_rfl

def kcells : List Int := [1, 1, 265, 7, 2, 2, 133, 6, 4, 3, 67, 4, 8, 4, 34, 0]

set_option maxRecDepth 100000 in
set_option maxHeartbeats 1000000 in
theorem kinds_any (w : World) : Calls Try.prog 99 #[] w fun e w' => e = .returned (.agg (i64s [1, 1, 265, 7, 2, 2, 133, 6, 4, 3, 67, 4, 8, 4, 34, 0]).toArray) ∧ Own w w' [] := by
  have H := Own.refl w
  go_enter Try.func99, Try.ntmps99
  go_wp2_with (first
    | (refine st_new rfl (rn_alloc H rfl info_kinds) ?_; clear H; intro b w1 hb H)
    | (refine st_skip rfl (rn_storeAll (vs := i64s [1, 1, 265, 7, 2, 2, 133, 6, 4, 3, 67, 4, 8, 4, 34, 0]) H rfl rfl rfl (by kernel_rfl) .head (by kernel_rfl) (oneCell_ints _ _)) ?_; clear H; intro w8 H))
  refine fin_cell rfl H rfl (.head _) rfl rfl (by kernel_rfl) rfl ⟨rfl, H.end0 (by simpa using hb)⟩

/-- how digits of a width are -/
def wOf : Nat → Int
  | 0 => 1
  | 1 => 2
  | 2 => 4
  | _ => 8
def krow : Nat → List Int
  | 0 => [1, 1, 265, 7]
  | 1 => [2, 2, 133, 6]
  | 2 => [4, 3, 67, 4]
  | _ => [8, 4, 34, 0]
def kindOf (x : Int) : List Int := if x = 1 then [1, 1, 265, 7] else if x = 2 then [2, 2, 133, 6] else if x = 4 then [4, 3, 67, 4] else if x = 8 then [8, 4, 34, 0] else [0, 0, 0, 0]
def isW (x : Int) : Bool := decide (x = 1 ∨ x = 2 ∨ x = 4 ∨ x = 8)

theorem krow_at {i : Nat} (h : i < 4) : Value.agg ((i64s [1, 1, 265, 7, 2, 2, 133, 6, 4, 3, 67, 4, 8, 4, 34, 0]).toArray.extract (((i : Nat) : Int).toNat * 4) (((i : Nat) : Int).toNat * 4 + 4)) = .agg (i64s (krow i)).toArray := by
  match i, h with
  | 0, _ => rfl
  | 1, _ => rfl
  | 2, _ => rfl
  | 3, _ => rfl
theorem kind_hit {i : Nat} {x : Int} (h : i < 4) (hx : wOf i = x) : kindOf x = krow i ∧ isW x = true := by
  subst hx
  match i, h with
  | 0, _ => exact ⟨rfl, rfl⟩
  | 1, _ => exact ⟨rfl, rfl⟩
  | 2, _ => exact ⟨rfl, rfl⟩
  | 3, _ => exact ⟨rfl, rfl⟩
theorem kind_miss {x : Int} (h : ∀ j, j < 4 → wOf j ≠ x) : kindOf x = [0, 0, 0, 0] ∧ isW x = false := by
  have h1 : x ≠ 1 := fun e => h 0 (by omega) e.symm
  have h2 : x ≠ 2 := fun e => h 1 (by omega) e.symm
  have h3 : x ≠ 4 := fun e => h 2 (by omega) e.symm
  have h4 : x ≠ 8 := fun e => h 3 (by omega) e.symm
  simp [kindOf, isW, h1, h2, h3, h4]
theorem krow_cons (i : Nat) : ∃ c, krow i = wOf i :: c := by
  match i with
  | 0 => exact ⟨_, rfl⟩
  | 1 => exact ⟨_, rfl⟩
  | 2 => exact ⟨_, rfl⟩
  | _ + 3 => exact ⟨_, rfl⟩
theorem krow_len (i : Nat) : (krow i).length = 4 := by
  match i with
  | 0 => rfl
  | 1 => rfl
  | 2 => rfl
  | _ + 3 => rfl

set_option maxRecDepth 100000 in
set_option maxHeartbeats 4000000 in
theorem of_any (w : World) (x : Int) : Calls Try.prog 89 #[.int .i64 x] w fun e w' => e = .returned (.tuple #[.agg (i64s (kindOf x)).toArray, .bool (isW x)]) ∧ Own w w' [] := by
  have H := Own.refl w
  have tok1 : True := trivial
  go_enter Try.func89, Try.ntmps89
  go_wp2_with (first
    | (clear tok1; refine st_new rfl (rn_alloc H rfl info_kind) ?_; clear H; intro r w1 hr H; have tok2 : True := trivial)
    | (clear tok2; go_at_call 99; refine (kinds_any _).mono ?_; rintro e w2 ⟨rfl, h3⟩; have H2 := H.call0 h3; clear H h3; have H := H2; clear H2))
  go_loopw [3, 5, 7] (fun v3 _ v7 wr => ∃ i : Nat, i ≤ 4 ∧ v3 = .bool false ∧ v7 = .int .i64 ((i : Nat) : Int) ∧ (∀ j, j < i → wOf j ≠ x) ∧ Own w wr [(r, i64s [0, 0, 0, 0], 142)]) (fun _ _ v7 _ => ((4 : Int) - intOf v7).toNat)
  case atStart => exact ⟨0, by omega, rfl, rfl, fun j hj => by omega, H⟩
  case round =>
    clear H
    obtain ⟨i, hi, rfl, rfl, hno, H⟩ := hrel
    have hno' := Lib.hid hno
    clear hno
    by_cases hin : i < 4
    · obtain ⟨c, hc⟩ := krow_cons i
      have hlen := Lib.hid (krow_len i)
      have hidx := Lib.hid (krow_at hin)
      have hhit := Lib.hid (fun h : wOf i = x => kind_hit hin h)
      obtain ⟨kr, hkr⟩ : ∃ k, k = krow i := ⟨_, rfl⟩
      rw [← hkr] at hc hlen hidx hhit
      obtain ⟨wi, hwi⟩ : ∃ k, k = wOf i := ⟨_, rfl⟩
      rw [← hwi] at hc hhit
      have h0 : Hid ((i64s kr)[0]? = some (.int .i64 wi)) := by show _ = _; rw [hc]; rfl
      have hl4 : Hid ((i64s kr).length = 4) := by show _ = _; rw [length_ints]; exact hlen.out
      have hsz : Hid ((Try.prog.info? 142).map (·.size) = some (i64s kr).length) := by show _ = _; rw [hl4.out]; kernel_rfl
      have hmiss : Hid (wi ≠ x → ∀ j, j < i + 1 → wOf j ≠ x) := fun h j hj => by
        rcases Nat.lt_or_ge j i with h1 | h1
        · exact hno'.out j h1
        · obtain rfl : j = i := by omega
          rw [← hwi]; exact h
      clear hc hkr hwi
      by_cases hx : wi = x
      · have hk := Lib.hid (hhit.out hx)
        subst hx
        go_wp2_with (first
          | (refine st_val rfl (rn_idxAggs rfl rfl (by kernel_rfl) rfl rfl rfl rfl (by omega) (by omega) hidx.out) ?_)
          | (refine st_new rfl (rn_alloc H rfl info_kind) ?_; clear H; intro b w3 hb H)
          | (refine st_skip rfl (rn_storeAll (vs := i64s kr) H rfl rfl rfl hsz.out .head (by rw [hl4.out]; rfl) (oneCell_ints _ _)) ?_; clear H; intro w4 H)
          | (refine st_val rfl (rn_load H rfl rfl (.head _) rfl rfl h0.out) ?_)
          | (refine st_val rfl (rn_loadAll H rfl rfl (.head _) rfl rfl hsz.out) ?_)
          | (refine st_skip rfl (rn_storeAll (vs := i64s kr) H rfl rfl rfl hsz.out (.tail .head) (by rw [hl4.out]; rfl) (oneCell_ints _ _)) ?_; clear H; intro w5 H))
        refine fin_cell2 rfl H rfl (.tail _ (.head _)) rfl rfl hsz.out rfl rfl ⟨?_, H.end0 (by simp; exact ⟨hb, hr⟩)⟩
        rw [hk.out.1, hk.out.2]; rfl
      · have hm := Lib.hid (hmiss.out hx)
        go_wp2_with (first
          | (refine st_val rfl (rn_idxAggs rfl rfl (by kernel_rfl) rfl rfl rfl rfl (by omega) (by omega) hidx.out) ?_)
          | (refine st_new rfl (rn_alloc H rfl info_kind) ?_; clear H; intro b w3 hb H)
          | (refine st_skip rfl (rn_storeAll (vs := i64s kr) H rfl rfl rfl hsz.out .head (by rw [hl4.out]; rfl) (oneCell_ints _ _)) ?_; clear H; intro w4 H)
          | (refine st_val rfl (rn_load H rfl rfl (.head _) rfl rfl h0.out) ?_))
        exact ⟨⟨i + 1, by omega, rfl, by go_num, hm.out, H.pop hb⟩, by simp [intOf]; omega⟩
    · obtain rfl : i = 4 := by omega
      have hk := Lib.hid (kind_miss hno'.out)
      go_wp2_with (refine st_skip rfl (rn_storeAll (vs := i64s [0, 0, 0, 0]) H rfl rfl rfl (by kernel_rfl) .head (by kernel_rfl) (oneCell_ints _ _)) ?_; clear H; intro w8 H)
      refine fin_cell2 rfl H rfl (.head _) rfl rfl (by kernel_rfl) rfl rfl ⟨?_, H.end0 (by simpa using hr)⟩
      rw [hk.out.1, hk.out.2]; rfl

theorem kindOf_cons (x : Int) : ∃ a b c d, kindOf x = [a, b, c, d] := by
  unfold kindOf
  repeat (first | exact ⟨_, _, _, _, rfl⟩ | split)

/-- Chains -/
def chainsOf (x : Int) : Int := if x = 1 then 265 else if x = 2 then 133 else if x = 4 then 67 else if x = 8 then 34 else 0
/-- Code -/
def codeOf (x : Int) : Int := if x = 1 then 1 else if x = 2 then 2 else if x = 4 then 3 else if x = 8 then 4 else 0
/-- the checksum's shift -/
def shiftOf (x : Int) : Int := if x = 1 then 7 else if x = 2 then 6 else if x = 4 then 4 else 0
theorem kindOf_eq (x : Int) : kindOf x = [if isW x then x else 0, codeOf x, chainsOf x, shiftOf x] := by
  unfold kindOf isW codeOf chainsOf shiftOf
  by_cases h1 : x = 1
  · subst h1; rfl
  · by_cases h2 : x = 2
    · subst h2; rfl
    · by_cases h3 : x = 4
      · subst h3; rfl
      · by_cases h4 : x = 8
        · subst h4; rfl
        · simp [h1, h2, h3, h4]
theorem chainsOf_pos (x : Int) : decide (0 < chainsOf x) = isW x := by
  unfold chainsOf isW
  by_cases h1 : x = 1
  · subst h1; rfl
  · by_cases h2 : x = 2
    · subst h2; rfl
    · by_cases h3 : x = 4
      · subst h3; rfl
      · by_cases h4 : x = 8
        · subst h4; rfl
        · simp [h1, h2, h3, h4]
theorem chainsOf_le (x : Int) : 0 ≤ chainsOf x ∧ chainsOf x ≤ 265 := by
  unfold chainsOf
  repeat (first | omega | split)

set_option maxRecDepth 100000 in
set_option maxHeartbeats 1000000 in
theorem chains_any (w : World) (x : Int) : Calls Try.prog 56 #[.int .i64 x] w fun e w' => e = .returned (.int .i64 (chainsOf x)) ∧ Own w w' [] := by
  have H := Own.refl w
  have hsz : Hid ((Try.prog.info? 142).map (·.size) = some (i64s (kindOf x)).length) := by obtain ⟨a, b, c, d, h⟩ := kindOf_cons x; show _ = _; rw [h]; kernel_rfl
  have hl : Hid ((i64s (kindOf x)).length = 4) := by obtain ⟨a, b, c, d, h⟩ := kindOf_cons x; show _ = _; rw [h]; rfl
  have h2 : Hid ((i64s (kindOf x))[2]? = some (.int .i64 (chainsOf x))) := by show _ = _; rw [kindOf_eq]; rfl
  obtain ⟨kc, hkc⟩ : ∃ k, k = i64s (kindOf x) := ⟨_, rfl⟩
  obtain ⟨cx, hcx⟩ : ∃ k, k = chainsOf x := ⟨_, rfl⟩
  have h1 : Hid (∀ v ∈ kc, v.oneCell' = true) := by rw [hkc]; exact oneCell_ints _ _
  have hof : Hid (Calls Try.prog 89 #[.int .i64 x] w fun e w' => e = .returned (.tuple #[.agg kc.toArray, .bool (isW x)]) ∧ Own w w' []) := by rw [hkc]; exact of_any w x
  rw [← hkc] at hsz hl h2
  rw [← hcx] at h2 ⊢
  clear hkc hcx
  go_enter Try.func56, Try.ntmps56
  go_wp2_with (first
    | (go_at_call 89; refine hof.out.mono ?_; rintro e w2 ⟨rfl, h3⟩; have H2 := H.call0 h3; clear H h3; have H := H2; clear H2)
    | (refine st_new rfl (rn_alloc H rfl info_kind) ?_; clear H; intro r w1 hr H)
    | (refine st_skip rfl (rn_storeAll (vs := kc) H rfl rfl rfl hsz.out .head (by rw [hl.out]; rfl) h1.out) ?_; clear H; intro w4 H)
    | (refine st_val rfl (rn_load H rfl rfl (.head _) rfl rfl h2.out) ?_))
  have H' := Lib.hid (H.end0 (by simpa using hr))
  go_ret
  exact ⟨rfl, H'.out⟩

set_option maxRecDepth 100000 in
set_option maxHeartbeats 1000000 in
theorem code_any (w : World) (x : Int) : Calls Try.prog 62 #[.int .i64 x] w fun e w' => e = .returned (.int .i64 (codeOf x)) ∧ Own w w' [] := by
  have H := Own.refl w
  have hsz : Hid ((Try.prog.info? 142).map (·.size) = some (i64s (kindOf x)).length) := by obtain ⟨a, b, c, d, h⟩ := kindOf_cons x; show _ = _; rw [h]; kernel_rfl
  have hl : Hid ((i64s (kindOf x)).length = 4) := by obtain ⟨a, b, c, d, h⟩ := kindOf_cons x; show _ = _; rw [h]; rfl
  have h2 : Hid ((i64s (kindOf x))[1]? = some (.int .i64 (codeOf x))) := by show _ = _; rw [kindOf_eq]; rfl
  obtain ⟨kc, hkc⟩ : ∃ k, k = i64s (kindOf x) := ⟨_, rfl⟩
  obtain ⟨cx, hcx⟩ : ∃ k, k = codeOf x := ⟨_, rfl⟩
  have h1 : Hid (∀ v ∈ kc, v.oneCell' = true) := by rw [hkc]; exact oneCell_ints _ _
  have hof : Hid (Calls Try.prog 89 #[.int .i64 x] w fun e w' => e = .returned (.tuple #[.agg kc.toArray, .bool (isW x)]) ∧ Own w w' []) := by rw [hkc]; exact of_any w x
  rw [← hkc] at hsz hl h2
  rw [← hcx] at h2 ⊢
  clear hkc hcx
  go_enter Try.func62, Try.ntmps62
  go_wp2_with (first
    | (go_at_call 89; refine hof.out.mono ?_; rintro e w2 ⟨rfl, h3⟩; have H2 := H.call0 h3; clear H h3; have H := H2; clear H2)
    | (refine st_new rfl (rn_alloc H rfl info_kind) ?_; clear H; intro r w1 hr H)
    | (refine st_skip rfl (rn_storeAll (vs := kc) H rfl rfl rfl hsz.out .head (by rw [hl.out]; rfl) h1.out) ?_; clear H; intro w4 H)
    | (refine st_val rfl (rn_load H rfl rfl (.head _) rfl rfl h2.out) ?_))
  have H' := Lib.hid (H.end0 (by simpa using hr))
  go_ret
  exact ⟨rfl, H'.out⟩

set_option maxRecDepth 100000 in
set_option maxHeartbeats 1000000 in
theorem long_any (w : World) (x : Int) : Calls Try.prog 53 #[.int .i64 x] w fun e w' => e = .returned (.int .i64 (36 + 32 * chainsOf x)) ∧ Own w w' [] := by
  have H := Own.refl w
  obtain ⟨h0, h1⟩ := chainsOf_le x
  have hof := Lib.hid (chains_any w x)
  obtain ⟨cx, hcx⟩ : ∃ k, k = chainsOf x := ⟨_, rfl⟩
  rw [← hcx] at h0 h1 hof ⊢
  clear hcx
  go_enter Try.func53, Try.ntmps53
  go_wp2_with (go_at_call 56; refine hof.out.mono ?_; rintro e w2 ⟨rfl, h3⟩; have H2 := H.call0 h3; clear H h3; have H := H2; clear H2)
  have H' := Lib.hid H
  go_ret
  exact ⟨rfl, H'.out⟩

/-- may -/
def mayB (q x : Int) : Bool := decide (0 ≤ q) && decide (q < 32) && isW x

set_option maxRecDepth 100000 in
set_option maxHeartbeats 1000000 in
theorem may_any (w : World) (q x : Int) : Calls Try.prog 81 #[.int .i64 q, .int .i64 x] w fun e w' => e = .returned (.bool (mayB q x)) ∧ Own w w' [] := by
  have H := Own.refl w
  have hof := Lib.hid (chains_any w x)
  have hpos := Lib.hid (chainsOf_pos x)
  obtain ⟨cx, hcx⟩ : ∃ k, k = chainsOf x := ⟨_, rfl⟩
  rw [← hcx] at hof hpos
  clear hcx
  by_cases h0 : 0 ≤ q
  · by_cases h1 : q < 32
    · have hm : Hid (mayB q x = decide (0 < cx)) := by show _ = _; unfold mayB; rw [decide_eq_true h0, decide_eq_true h1, hpos.out]; rfl
      go_enter Try.func81, Try.ntmps81
      go_wp2_with (go_at_call 56; refine hof.out.mono ?_; rintro e w2 ⟨rfl, h3⟩; have H2 := H.call0 h3; clear H h3; have H := H2; clear H2)
      have H' := Lib.hid H
      go_ret
      exact ⟨by rw [hm.out]; rfl, H'.out⟩
    · have hm : Hid (mayB q x = false) := by show _ = _; unfold mayB; rw [decide_eq_false h1]; simp
      have H' := Lib.hid H
      go_enter Try.func81, Try.ntmps81
      go_wp2_with fail
      go_ret
      exact ⟨by rw [hm.out]; rfl, H'.out⟩
  · have hm : Hid (mayB q x = false) := by show _ = _; unfold mayB; rw [decide_eq_false h0]; rfl
    have H' := Lib.hid H
    go_enter Try.func81, Try.ntmps81
    go_wp2_with fail
    go_ret
    exact ⟨by rw [hm.out]; rfl, H'.out⟩

/-! ### the document's -/

set_option maxRecDepth 100000 in
set_option maxHeartbeats 1000000 in
theorem refChains_any (w : World) (x : Int) : Calls Try.prog 74 #[.int .i64 x] w fun e w' => e = .returned (.int .i64 (chainsOf x)) ∧ Own w w' [] := by
  have H' := Lib.hid (Own.refl w)
  by_cases h1 : x = 1
  · subst h1
    go_enter Try.func74, Try.ntmps74
    go_wp2_with fail
    go_ret
    exact ⟨rfl, H'.out⟩
  · by_cases h2 : x = 2
    · subst h2
      go_enter Try.func74, Try.ntmps74
      go_wp2_with fail
      go_ret
      exact ⟨rfl, H'.out⟩
    · by_cases h3 : x = 4
      · subst h3
        go_enter Try.func74, Try.ntmps74
        go_wp2_with fail
        go_ret
        exact ⟨rfl, H'.out⟩
      · by_cases h4 : x = 8
        · subst h4
          go_enter Try.func74, Try.ntmps74
          go_wp2_with fail
          go_ret
          exact ⟨rfl, H'.out⟩
        · have hc : Hid (chainsOf x = 0) := by show _ = _; simp [chainsOf, h1, h2, h3, h4]
          go_enter Try.func74, Try.ntmps74
          go_wp2_with fail
          go_ret
          exact ⟨by rw [hc.out]; rfl, H'.out⟩

end Go.Proofs.Ytfihlmnbonnekaa
