/- hss: Key.Public. -/
import Derived.Test.YtfihlmnbonnekaaHSgn
namespace Go.Proofs.Ytfihlmnbonnekaa
open Go.RowKit

set_option linter.unusedVariables false
theorem Own.sameL {w w' : World} {L : List Ent} (h : Own w w' L) (h0 : Own w w L) : Own w w' [] := by
  refine ⟨h.os, h.tape, h.output, h.size, fun k hk _ => ?_, List.nodup_nil, fun _ _ _ hm => by cases hm⟩
  by_cases e : k ∈ L.map (·.1)
  · obtain ⟨⟨b, cs, T⟩, hm, rfl⟩ := List.mem_map.1 e
    exact (h.here b cs T hm).trans (h0.here b cs T hm).symm
  · exact h.keep k hk e
set_option maxRecDepth 100000 in
set_option maxHeartbeats 4000000 in
theorem hpub_1 (w : World) (kb tb : Nat) (id sd : List Int) (h16 : id.length = 16) (h32 : sd.length = 32) (k : Nat) (hk : k = 1 ∨ k = 2 ∨ k = 4 ∨ k = 8) (L0 : List Ent) (K0 : List Value) (hK0 : (kb, K0, 114) ∈ L0) (hK1 : K0[49]? = some (.int .i64 1)) (hK2 : K0[50]? = some (.pointer (some ⟨tb, 0, none⟩))) (hT : (tb, fullT id sd k, 104) ∈ L0) (H0 : Own w w L0) :
    Calls Try.prog 36 #[.pointer (some ⟨kb, 0, none⟩)] w fun e w' => ∃ v, e = .returned v ∧ BufR w.heap.size (numB 1 4 ++ pubL id sd k) w' v ∧ Own w w' [] := by
  have hpu := Lib.hid (fun w' (h : TreeAt w' tb id sd k) => lpubA_any w' tb id sd h16 h32 k hk h)
  have hta : Hid (∀ w' v wb, Own w w' ((wb, [v], 107) :: L0) → TreeAt w' tb id sd k) := fun w' v wb h => h.here _ _ _ (.tail _ hT)
  have hpl : Hid ((pubL id sd k).length = 56) := length_pubL h16 sd k
  have hl4 : Hid ((numB 1 4).length = 4) := length_numB _ _
  obtain ⟨PL, hPL⟩ : ∃ x, x = pubL id sd k := ⟨_, rfl⟩
  rw [← hPL] at hpu hpl ⊢
  have H := H0
  have H0' := Lib.hid H0
  clear H0 h16 h32 hk hPL
  go_enter Try.func36, Try.ntmps36
  have tok1 : True := trivial
  go_wp2_with (first
    | (clear tok1; refine st_new rfl (rn_alloc H rfl info_writer) ?_; clear H; intro wb w3 hwb H; have B : Buf 5 .u8 w w3 ((wb, [.slice none 0 0], 107) :: L0) (.slice none 0 0) [] := Buf.nil H; clear H; have tok5 : True := trivial)
    | (clear tok5; refine st_val rfl (rn_cell rfl rfl rfl rfl ((B.own0.cell (.tail _ hK0) 49).trans hK1)) ?_; have tok6 : True := trivial)
    | (clear tok6; go_at_call 59; refine (num_any _ _ _ _ _ _ B 1 4 (by omega) (by omega) (by simp)).mono ?_; rintro e w4 ⟨rfl, v4, B2⟩; clear B; have B := B2; clear B2; have tok7 : True := trivial)
    | (clear tok7; refine st_val rfl (rn_cell rfl rfl rfl rfl ((B.own0.cell (.tail _ hK0) 50).trans hK2)) ?_; have tok8 : True := trivial)
    | (clear tok8; go_at_call 30; refine (hpu.out _ (hta.out _ _ _ B.own0)).mono ?_; rintro e w5 ⟨g, c, rfl, _, _, _, h1, h2⟩; have P5 := Lib.hid h1.old; have B2 := B.call0 h2; clear B h1 h2; have B := B2; clear B2; have tok9 : True := trivial)
    | (clear tok9; go_at_call 60; refine (raw_any _ _ _ _ _ _ B _ PL P5.out.1 (by rw [List.nil_append, hl4.out, hpl.out]; omega)).mono ?_; rintro e w6 ⟨rfl, v6, B2⟩; clear B P5; have B := B2; clear B2; have tok10 : True := trivial)
    | (clear tok10; go_at_call 61; refine (bytesB_any _ wb v6 _ (B.own0.sub1 (.head _)) B.bytesAt B.lt (by rw [List.nil_append, List.length_append, hl4.out, hpl.out]; omega)).mono ?_; rintro e w7 ⟨r, rfl, hr⟩; have R7 := Lib.hid hr; have hw6 := B.own0.size; have H := B.own0.call0 hr.own0; clear B hr))
  go_ret
  exact ⟨_, rfl, ⟨_, hw6, R7.out⟩, (Own.drop (L1 := [_]) H (by simpa using hwb)).sameL H0'.out⟩
set_option maxRecDepth 100000 in
set_option maxHeartbeats 4000000 in
theorem hpub_2 (w : World) (kb tb : Nat) (id sd : List Int) (h16 : id.length = 16) (h32 : sd.length = 32) (k : Nat) (hk : k = 1 ∨ k = 2 ∨ k = 4 ∨ k = 8) (L0 : List Ent) (K0 : List Value) (hK0 : (kb, K0, 114) ∈ L0) (hK1 : K0[49]? = some (.int .i64 2)) (hK2 : K0[50]? = some (.pointer (some ⟨tb, 0, none⟩))) (hT : (tb, fullT id sd k, 104) ∈ L0) (H0 : Own w w L0) :
    Calls Try.prog 36 #[.pointer (some ⟨kb, 0, none⟩)] w fun e w' => ∃ v, e = .returned v ∧ BufR w.heap.size (numB 2 4 ++ pubL id sd k) w' v ∧ Own w w' [] := by
  have hpu := Lib.hid (fun w' (h : TreeAt w' tb id sd k) => lpubA_any w' tb id sd h16 h32 k hk h)
  have hta : Hid (∀ w' v wb, Own w w' ((wb, [v], 107) :: L0) → TreeAt w' tb id sd k) := fun w' v wb h => h.here _ _ _ (.tail _ hT)
  have hpl : Hid ((pubL id sd k).length = 56) := length_pubL h16 sd k
  have hl4 : Hid ((numB 2 4).length = 4) := length_numB _ _
  obtain ⟨PL, hPL⟩ : ∃ x, x = pubL id sd k := ⟨_, rfl⟩
  rw [← hPL] at hpu hpl ⊢
  have H := H0
  have H0' := Lib.hid H0
  clear H0 h16 h32 hk hPL
  go_enter Try.func36, Try.ntmps36
  have tok1 : True := trivial
  go_wp2_with (first
    | (clear tok1; refine st_new rfl (rn_alloc H rfl info_writer) ?_; clear H; intro wb w3 hwb H; have B : Buf 5 .u8 w w3 ((wb, [.slice none 0 0], 107) :: L0) (.slice none 0 0) [] := Buf.nil H; clear H; have tok5 : True := trivial)
    | (clear tok5; refine st_val rfl (rn_cell rfl rfl rfl rfl ((B.own0.cell (.tail _ hK0) 49).trans hK1)) ?_; have tok6 : True := trivial)
    | (clear tok6; go_at_call 59; refine (num_any _ _ _ _ _ _ B 2 4 (by omega) (by omega) (by simp)).mono ?_; rintro e w4 ⟨rfl, v4, B2⟩; clear B; have B := B2; clear B2; have tok7 : True := trivial)
    | (clear tok7; refine st_val rfl (rn_cell rfl rfl rfl rfl ((B.own0.cell (.tail _ hK0) 50).trans hK2)) ?_; have tok8 : True := trivial)
    | (clear tok8; go_at_call 30; refine (hpu.out _ (hta.out _ _ _ B.own0)).mono ?_; rintro e w5 ⟨g, c, rfl, _, _, _, h1, h2⟩; have P5 := Lib.hid h1.old; have B2 := B.call0 h2; clear B h1 h2; have B := B2; clear B2; have tok9 : True := trivial)
    | (clear tok9; go_at_call 60; refine (raw_any _ _ _ _ _ _ B _ PL P5.out.1 (by rw [List.nil_append, hl4.out, hpl.out]; omega)).mono ?_; rintro e w6 ⟨rfl, v6, B2⟩; clear B P5; have B := B2; clear B2; have tok10 : True := trivial)
    | (clear tok10; go_at_call 61; refine (bytesB_any _ wb v6 _ (B.own0.sub1 (.head _)) B.bytesAt B.lt (by rw [List.nil_append, List.length_append, hl4.out, hpl.out]; omega)).mono ?_; rintro e w7 ⟨r, rfl, hr⟩; have R7 := Lib.hid hr; have hw6 := B.own0.size; have H := B.own0.call0 hr.own0; clear B hr))
  go_ret
  exact ⟨_, rfl, ⟨_, hw6, R7.out⟩, (Own.drop (L1 := [_]) H (by simpa using hwb)).sameL H0'.out⟩

end Go.Proofs.Ytfihlmnbonnekaa
