/- chirographlaw3.told: what may not be, and told. -/
import Derived.Test.YtokichlmgepdpaaOTold
namespace Go.Proofs.Ytokichlmgepdpaa
open Go.RowKit

theorem kbyte_cells (xs : List Int) : (Value.agg (u8s xs).toArray).cells.toList = u8s xs := rfl

set_option maxRecDepth 100000 in
set_option maxHeartbeats 4000000 in
theorem pub_bad (w : World) (xs : List Int) (q x : Int) (hb : mayB q x = false) :
    Calls Try.prog 17 #[.agg (u8s xs).toArray, .int .i64 q, .int .i64 x] w fun e w' => e = .returned (.tuple #[.agg (u8s (List.replicate 32 0)).toArray, .int .i64 1]) ∧ Own w w' [] := by
  have H := Own.refl w
  have hmay : Hid (∀ w', Calls Try.prog 30 #[.int .i64 q, .int .i64 x] w' fun e w'' => e = .returned (.bool false) ∧ Own w' w'' []) := fun w' => by rw [← hb]; exact may_any w' q x
  clear hb
  go_enter Try.func17, Try.ntmps17
  have tok1 : True := trivial
  go_wp2_with (first
    | (clear tok1; refine st_new rfl (rn_box (cs := u8s xs) H rfl rfl rfl) ?_; clear H; intro b3 w1 hb3 H; have tok2 : True := trivial)
    | (clear tok2; refine st_new rfl (rn_box (cs := i64s [q]) H rfl rfl rfl) ?_; clear H; intro b4 w2 hb4 H; have tok3 : True := trivial)
    | (clear tok3; refine st_new rfl (rn_alloc H rfl info_hash) ?_; clear H; intro b6 w3 hb6 H; have tok4 : True := trivial)
    | (refine st_val rfl (rn_load H rfl rfl (.tail _ (.head _)) rfl rfl rfl) ?_)
    | (clear tok4; go_at_call 30; refine (hmay.out _).mono ?_; rintro e w4 ⟨rfl, h3⟩; have H2 := H.call0 h3; clear H h3; have H := H2; clear H2; have tok5 : True := trivial)
    | (clear tok5; refine st_skip rfl (rn_storeAll (vs := u8s (List.replicate 32 0)) H rfl rfl rfl (by kernel_rfl) .head (by kernel_rfl) (oneCell_ints _ _)) ?_; clear H; intro w5 H))
  refine fin_cell2 rfl H rfl (.head _) rfl rfl (by kernel_rfl) rfl rfl ⟨rfl, ?_⟩
  exact H.end0 (by simp; omega)

set_option maxRecDepth 100000 in
set_option maxHeartbeats 4000000 in
theorem sign_bad (w : World) (xs : List Int) (q x : Int) (v : Value) (hb : mayB q x = false) :
    Calls Try.prog 16 #[.agg (u8s xs).toArray, .int .i64 q, .int .i64 x, v] w fun e w' => e = .returned (.tuple #[.slice none 0 0, .int .i64 1]) ∧ Own w w' [] := by
  have H := Own.refl w
  have hmay : Hid (∀ w', Calls Try.prog 30 #[.int .i64 q, .int .i64 x] w' fun e w'' => e = .returned (.bool false) ∧ Own w' w'' []) := fun w' => by rw [← hb]; exact may_any w' q x
  clear hb
  go_enter Try.func16, Try.ntmps16
  have tok1 : True := trivial
  go_wp2_with (first
    | (clear tok1; refine st_new rfl (rn_box (cs := u8s xs) H rfl rfl rfl) ?_; clear H; intro b3 w1 hb3 H; have tok2 : True := trivial)
    | (clear tok2; go_at_call 30; refine (hmay.out _).mono ?_; rintro e w4 ⟨rfl, h3⟩; have H2 := H.call0 h3; clear H h3; have H := H2; clear H2))
  have h1 := Lib.hid (H.end0 (by simp; omega))
  go_ret2
  exact ⟨rfl, h1.out⟩

set_option maxRecDepth 100000 in
set_option maxHeartbeats 4000000 in
theorem cand_bad (w : World) (xs : List Int) (q x : Int) (v u : Value) (hb : mayB q x = false) :
    Calls Try.prog 18 #[.agg (u8s xs).toArray, .int .i64 q, .int .i64 x, v, u] w fun e w' => e = .returned (.tuple #[.agg (u8s (List.replicate 32 0)).toArray, .int .i64 1]) ∧ Own w w' [] := by
  have H := Own.refl w
  have hmay : Hid (∀ w', Calls Try.prog 30 #[.int .i64 q, .int .i64 x] w' fun e w'' => e = .returned (.bool false) ∧ Own w' w'' []) := fun w' => by rw [← hb]; exact may_any w' q x
  clear hb
  go_enter Try.func18, Try.ntmps18
  have tok1 : True := trivial
  go_wp2_with (first
    | (clear tok1; refine st_new rfl (rn_box (cs := u8s xs) H rfl rfl rfl) ?_; clear H; intro b3 w1 hb3 H; have tok2 : True := trivial)
    | (clear tok2; refine st_new rfl (rn_box (cs := i64s [q]) H rfl rfl rfl) ?_; clear H; intro b4 w2 hb4 H; have tok3 : True := trivial)
    | (clear tok3; refine st_new rfl (rn_alloc H rfl info_hash) ?_; clear H; intro b6 w3 hb6 H; have tok4 : True := trivial)
    | (refine st_val rfl (rn_load H rfl rfl (.tail _ (.head _)) rfl rfl rfl) ?_)
    | (clear tok4; go_at_call 30; refine (hmay.out _).mono ?_; rintro e w4 ⟨rfl, h3⟩; have H2 := H.call0 h3; clear H h3; have H := H2; clear H2; have tok5 : True := trivial)
    | (clear tok5; refine st_skip rfl (rn_storeAll (vs := u8s (List.replicate 32 0)) H rfl rfl rfl (by kernel_rfl) .head (by kernel_rfl) (oneCell_ints _ _)) ?_; clear H; intro w5 H))
  refine fin_cell2 rfl H rfl (.head _) rfl rfl (by kernel_rfl) rfl rfl ⟨rfl, ?_⟩
  exact H.end0 (by simp; omega)

theorem dig8_zero : digits (List.replicate 32 0) 8 = List.replicate 32 0 ++ [31, 224] := by kernel_rfl

set_option maxRecDepth 100000 in
set_option maxHeartbeats 4000000 in
theorem otold_any (w : World) : Calls Try.prog 14 #[] w fun e w' => e = .returned (.bool true) ∧ Own w w' [] := by
  have H := Own.refl w
  have hty := Lib.hid types_any
  have hpb : Hid (∀ w', Calls Try.prog 17 #[.agg (u8s (List.replicate 48 0)).toArray, .int .i64 0, .int .i64 3] w' fun e w'' => e = .returned (.tuple #[.agg (u8s (List.replicate 32 0)).toArray, .int .i64 1]) ∧ Own w' w'' []) := fun w' => pub_bad w' _ 0 3 (by decide)
  have hsb : Hid (∀ w', Calls Try.prog 16 #[.agg (u8s (List.replicate 48 0)).toArray, .int .i64 32, .int .i64 2, .slice none 0 0] w' fun e w'' => e = .returned (.tuple #[.slice none 0 0, .int .i64 1]) ∧ Own w' w'' []) := fun w' => sign_bad w' _ 32 2 _ (by decide)
  have hd8 : Hid (∀ w', Calls Try.prog 11 #[.int .i64 8, .agg (u8s (List.replicate 32 0)).toArray] w' fun e w'' => ∃ b off c, e = .returned (.tuple #[.slice (some ⟨b, off, none⟩) 34 c, .int .i64 0]) ∧ (∀ w3, Own w'' w3 [] → w3.cell? ⟨b, off, none⟩ = some (.int .i64 0) ∧ w3.cell? ⟨b, off + 32, none⟩ = some (.int .i64 31) ∧ w3.cell? ⟨b, off + 33, none⟩ = some (.int .i64 224)) ∧ Own w' w'' []) := fun w' => by
    refine (digits_8 w' (List.replicate 32 0) (by simp) (fun i hi => by rw [List.getElem?_replicate]; split <;> simp)).mono ?_
    rintro e w2 ⟨v, rfl, h1, h2⟩
    rw [dig8_zero] at h1
    have hsh := h1.1
    obtain ⟨p, c, rfl⟩ := hsh
    obtain ⟨b, off, rfl, _, hc⟩ : ∃ b off, p = some ⟨b, off, none⟩ ∧ True ∧ ∀ i v, (ints .i64 (List.replicate 32 0 ++ [31, 224]))[i]? = some v → w2.cell? ⟨b, off + i, none⟩ = some v := by
      rcases h1.2.1 with ⟨_, h3, _⟩ | ⟨b, off, c2, h3, _, h4⟩
      · simp at h3
      · cases h3; exact ⟨b, off, rfl, trivial, h4⟩
    exact ⟨b, off, c, rfl, fun w3 h3 => ⟨h3.old (hc 0 _ rfl) (by simp), h3.old (hc 32 _ rfl) (by simp), h3.old (hc 33 _ rfl) (by simp)⟩, h2⟩
  have hch := Lib.hid chains_any
  have c1 : Hid (∀ w', Calls Try.prog 15 #[.int .i64 1] w' fun e w'' => e = .returned (.int .i64 265) ∧ Own w' w'' []) := fun w' => chains_any w' 1
  have c2 : Hid (∀ w', Calls Try.prog 15 #[.int .i64 2] w' fun e w'' => e = .returned (.int .i64 133) ∧ Own w' w'' []) := fun w' => chains_any w' 2
  have c4 : Hid (∀ w', Calls Try.prog 15 #[.int .i64 4] w' fun e w'' => e = .returned (.int .i64 67) ∧ Own w' w'' []) := fun w' => chains_any w' 4
  have c8 : Hid (∀ w', Calls Try.prog 15 #[.int .i64 8] w' fun e w'' => e = .returned (.int .i64 34) ∧ Own w' w'' []) := fun w' => chains_any w' 8
  have c3 : Hid (∀ w', Calls Try.prog 15 #[.int .i64 3] w' fun e w'' => e = .returned (.int .i64 0) ∧ Own w' w'' []) := fun w' => chains_any w' 3
  clear hch
  go_enter Try.func14, Try.ntmps14
  have tok1 : True := trivial
  go_wp2_with (first
    | (clear tok1; go_at_call 29; refine (hty.out _).mono ?_; rintro e w1 ⟨bt, ct, rfl, hT, h3⟩; have HW1 := Lib.hid (H.call0 h3); clear H h3; have H := Own.refl w1; have T1 := Lib.hid hT; clear hT; have tok2 : True := trivial)
    | (clear tok2; go_at_call 17; refine (hpb.out _).mono ?_; rintro e w2 ⟨rfl, h3⟩; have H2 := H.call0 h3; clear H h3; have H := H2; clear H2; have tok3 : True := trivial)
    | (clear tok3; refine st_new rfl (rn_alloc H rfl info_hash) ?_; clear H; intro b2 w3 hb2 H; have tok4 : True := trivial)
    | (clear tok4; refine st_skip rfl (rn_storeAll (vs := u8s (List.replicate 32 0)) H rfl rfl rfl (by kernel_rfl) .head (by kernel_rfl) (oneCell_ints _ _)) ?_; clear H; intro w4 H; have tok5 : True := trivial)
    | (clear tok5; go_at_call 16; refine (hsb.out _).mono ?_; rintro e w5 ⟨rfl, h3⟩; have H2 := H.call0 h3; clear H h3; have H := H2; clear H2; have tok6 : True := trivial)
    | (clear tok6; go_at_call 11; refine (hd8.out _).mono ?_; rintro e w6 ⟨bd, od, cd, rfl, hD, h3⟩; have H2 := (H.call0 h3).end0 (by simpa using hb2); have HW := Lib.hid (HW1.out.trans H2); have T2 := Lib.hid (fun (w'' : World) (h : Own w6 w'' []) => T1.out w'' (H2.trans h)); have D := Lib.hid hD; clear H h3 H2 HW1 T1 hD; have H := Own.refl w6; have q1 := T2.out _ H; have tok7 : True := trivial)
    | (clear tok7; go_at_call 15; refine (c1.out _).mono ?_; rintro e w7 ⟨rfl, h3⟩; have H2 := H.call0 h3; clear H h3; have H := H2; clear H2; have tok8 : True := trivial)
    | (clear tok8; go_at_call 15; refine (c2.out _).mono ?_; rintro e w7 ⟨rfl, h3⟩; have H2 := H.call0 h3; clear H h3; have H := H2; clear H2; have tok9 : True := trivial)
    | (clear tok9; go_at_call 15; refine (c4.out _).mono ?_; rintro e w7 ⟨rfl, h3⟩; have H2 := H.call0 h3; clear H h3; have H := H2; clear H2; have tok10 : True := trivial)
    | (clear tok10; go_at_call 15; refine (c8.out _).mono ?_; rintro e w7 ⟨rfl, h3⟩; have H2 := H.call0 h3; clear H h3; have H := H2; clear H2; have tok11 : True := trivial)
    | (clear tok11; go_at_call 15; refine (c3.out _).mono ?_; rintro e w8 ⟨rfl, h3⟩; have H2 := H.call0 h3; clear H h3; have H := H2; clear H2; have q2 := (D.out _ H).1; have q3 := (D.out _ H).2.1; have q4 := (D.out _ H).2.2))
  have H' := Lib.hid (HW.out.trans H)
  go_ret
  exact ⟨rfl, H'.out⟩

end Go.Proofs.Ytokichlmgepdpaa
