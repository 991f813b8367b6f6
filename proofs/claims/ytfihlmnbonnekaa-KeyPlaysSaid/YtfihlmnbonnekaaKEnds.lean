/- chirographlaw15.KeyEnds: the walk. -/
import Derived.Test.YtfihlmnbonnekaaKTold
namespace Go.Proofs.Ytfihlmnbonnekaa
open Go.RowKit

theorem Own.self2 {w0 w : World} {L : List Ent} (h : Own w0 w L) : Own w w L := ⟨rfl, rfl, rfl, Nat.le_refl _, fun _ _ _ => rfl, h.nodup, h.here⟩
theorem Old.intro' {w : World} {v : Value} {xs : List Int} (h : BytesAt w v xs) (h2 : ∀ k, blk v = some k → k < w.heap.size) : Old w v xs := ⟨h, h2⟩
theorem isBytes_one {z : Int} (h : 0 ≤ z ∧ z < 256) : IsBytes [z] := isBytes_mem.2 fun x hx => by rw [List.mem_singleton] at hx; rw [hx]; exact h
set_option maxRecDepth 100000 in
set_option maxHeartbeats 8000000 in
theorem keyEnds_row (w : World) (s0 : Int) (_ : IntKind.i64.min ≤ s0) (_ : s0 ≤ IntKind.i64.max) (u0 : Int) (_ : IntKind.i64.min ≤ u0) (_ : u0 ≤ IntKind.i64.max) :
    Calls Try.prog 3 #[.int .i64 s0, .int .i64 u0] w fun e w' => e = .returned (.bool true) ∧ Own w w' [] := by
  rename_i q1 q2 q3 q4
  clear q1 q2 q3 q4
  have H := Own.refl w
  have hto := Lib.hid ktold_any
  obtain ⟨id, sd, h16, h32, hidb, hsdb, hsec⟩ := secret13_any s0 3
  have hsec := Lib.hid hsec
  have h48 : (id ++ sd).length = 48 := by rw [List.length_append, h16, h32]
  have hsz48 := Lib.hid (size_secretL h16 h32)
  have hnw : Hid (∀ w' (u : Int), 0 ≤ u → u ≤ 32 → Calls Try.prog 11 #[.agg (u8s (id ++ sd)).toArray, .int .i64 2, .int .i64 u] w' fun e w'' => ∃ kb tb, e = .returned (.tuple #[.pointer (some ⟨kb, 0, none⟩), .int .i64 0]) ∧ w'.heap.size ≤ kb ∧ w'.heap.size ≤ tb ∧ Own w' w'' [(kb, sgC tb u u, 74), (tb, treeG (id ++ sd) 2 0 0 (List.replicate 2048 0) 0, 104)]) := fun w' u h1 h2 => knew_any w' _ h48 2 (by omega) u h1 h2
  have hsg : Hid (∀ w' kb tb (n r : Int) cs mv msg, 0 ≤ n → n < 32 → n < r → IsTree id sd 2 cs → Old w' mv msg → IsBytes msg → msg.length ≤ 90000 → Own w' w' [(kb, sgC tb n r, 74), (tb, cs, 104)] → (∀ k, blk mv = some k → k ≠ kb) → (∀ k, blk mv = some k → k ≠ tb) → Calls Try.prog 14 #[.pointer (some ⟨kb, 0, none⟩), mv] w' fun e w'' => ∃ g c, e = .returned (.tuple #[.slice (some ⟨g, 0, none⟩) 4460 c, .int .i64 0]) ∧ 4460 ≤ c ∧ w'.heap.size ≤ g ∧ g < w''.heap.size ∧ BufS w'.heap.size (lsigOf id sd 2 n.toNat msg) w'' (.slice (some ⟨g, 0, none⟩) 4460 c) ∧ Own w' w'' [(kb, sgC tb (n + 1) r, 74), (tb, fullT id sd 2, 104)]) :=
    fun w' kb tb n r cs mv msg h1 h2 h3 h4 h5 h6 h7 h8 h9 h10 => ksign_any w' kb tb n r h1 h2 h3 id sd h16 h32 2 (by omega) cs h4 mv msg h5 h6 h7 h8 h9 h10 rfl
  obtain ⟨IT, hIT⟩ : ∃ I, I = IsTree id sd 2 := ⟨_, rfl⟩
  obtain ⟨SG, hSG⟩ : ∃ s, s = lsigOf id sd 2 := ⟨_, rfl⟩
  obtain ⟨FT, hFT⟩ : ∃ s, s = fullT id sd 2 := ⟨_, rfl⟩
  obtain ⟨T0, hT0⟩ : ∃ s, s = treeG (id ++ sd) 2 0 0 (List.replicate 2048 0) 0 := ⟨_, rfl⟩
  have hi0 : Hid (IT T0) := by show IT T0; rw [hIT, hT0]; exact Or.inl rfl
  have hi1 : Hid (IT FT) := by show IT FT; rw [hIT, hFT]; exact Or.inr rfl
  rw [← hT0] at hnw
  rw [← hIT, ← hSG, ← hFT] at hsg
  obtain ⟨u, hue, hu⟩ := rem_wrap u0 33 (by omega) (by omega)
  have hu32 : u ≤ 32 := by omega
  clear h16 h32 h48 hidb hsdb hIT hSG hFT hT0 hu
  go_enter Try.func3, Try.ntmps3
  have tok1 : True := trivial
  go_wp2_with (first
    | (clear tok1; go_at_call 12; refine (hsec.out _).mono ?_; rintro e w1 ⟨rfl, h3⟩; have H2 := H.call0 h3; clear H h3; have H := H2; clear H2; have tok2 : True := trivial)
    | (clear tok2; go_at_call 11; refine (hnw.out _ u (by omega) (by omega)).mono ?_; rintro e w2 ⟨kb, tb, rfl, hkb, htb, h3⟩; have hkb0 := Nat.le_trans H.size hkb; have htb0 := Nat.le_trans H.size htb; have H2 := Own.call (L1 := []) H ⟨h3, by simp; omega⟩ (by simp); clear H h3; have H := H2; clear H2; have tok3 : True := trivial)
    | (clear tok3; go_at_call 13; refine (kreserve_ok _ kb tb u u 32 (H.self2.sub1 (.head _)) (by omega) (by omega)).mono ?_; rintro e w3 ⟨rfl, h3⟩; have H2 := Own.next (L := [_]) (M := [_]) H h3 rfl; clear H h3; have H := H2; clear H2; have tok4 : True := trivial))
  clear hnw hsec
  go_loopw [8, 9, 10, 11] (fun v8 v9 _ _ wr => ∃ (i m : Nat) (cs : List Value), i ≤ 35 ∧ v9 = .int .i64 ((i : Nat) : Int) ∧ v8 = .int .i64 ((m : Nat) : Int) ∧ ((u + i ≤ 32 ∧ m = i) ∨ (32 ≤ u + i ∧ m = 32 - u)) ∧ IT cs ∧ Own w wr [(kb, sgC tb ((u + m : Nat) : Int) 32, 74), (tb, cs, 104)]) (fun _ v9 _ _ _ => ((35 : Nat) - intOf v9).toNat)
  case atStart => exact ⟨0, 0, T0, by omega, rfl, rfl, by omega, hi0.out, H⟩
  case round =>
    clear H
    obtain ⟨i, m, cs, hi, rfl, rfl, hm, hcs, H⟩ := hrel
    have HR := Lib.hid H
    have hcs' := Lib.hid hcs
    clear H hcs
    have H := Own.refl wr
    by_cases hin : i < 35
    · by_cases hlt : u + i < 32
      · have hm2 : m = i := by omega
        subst hm2
        clear hm
        have hd1 : decide ((u : Int) + (m : Int) < 32) = true := decide_eq_true (by omega)
        have hd2 : decide (u + m < 32) = true := decide_eq_true (by omega)
        have tok1 : True := trivial
        go_wp2_with (first
          | (clear tok1; refine st_new rfl (rn_buildSlice (e := 5) (cs := u8s [1]) H rfl (fun w' => by kernel_rfl)) ?_; clear H; intro b5 w5 hb5 H; have H5 := Lib.hid (HR.out.call0 (H.end0 (by simpa using hb5))); have M5 := Lib.hid (Old.intro' (Own.lit H rfl) (Own.lit_lt H)); have hkw := HR.out.lt (.head _); have htw := HR.out.lt (.tail _ (.head _)); clear H; have tok2 : True := trivial)
          | (clear tok2; go_at_call 14; refine (hsg.out _ kb tb ((u + m : Nat) : Int) 32 cs _ [1] (by omega) (by omega) (by omega) hcs'.out M5.out (isBytes_one (by omega)) (by simp) H5.out.self2 (fun k hk => by obtain rfl := (blk_some hk).1; show b5 ≠ kb; omega) (fun k hk => by obtain rfl := (blk_some hk).1; show b5 ≠ tb; omega)).mono ?_; rintro e w6 ⟨g, c, rfl, h1, h2, h4, h5, h6⟩; have HN := Lib.hid (Own.next (L := [_, _]) (M := []) H5.out h6 rfl); clear h1 h2 h4 h5 h6 M5 H5; have tok3 : True := trivial))
        refine ⟨⟨m + 1, m + 1, FT, by omega, by go_num, by go_num, by omega, hi1.out, ?_⟩, by simp [intOf]; omega⟩
        have e : ((u + (m + 1) : Nat) : Int) = ((u + m : Nat) : Int) + 1 := by omega
        rw [e]
        exact HN.out
      · have hm2 : u + m = 32 := by omega
        have hm3 : ((u + m : Nat) : Int) = 32 := by omega
        have hlt' : 32 ≤ u + i := by omega
        rw [hm3] at HR
        have hd1 : decide ((u : Int) + (i : Int) < 32) = false := decide_eq_false (by omega)
        have hd2 : decide (u + i < 32) = false := decide_eq_false (by omega)
        have hm4 := Lib.hid hm2
        clear hm hm2 hm3 hlt
        have tok1 : True := trivial
        go_wp2_with (first
          | (clear tok1; refine st_new rfl (rn_buildSlice (e := 5) (cs := u8s [1]) H rfl (fun w' => by kernel_rfl)) ?_; clear H; intro b5 w5 hb5 H; have H5 := Lib.hid (HR.out.call0 (H.end0 (by simpa using hb5))); clear H; have H := Own.refl w5; have tok2 : True := trivial)
          | (clear tok2; go_at_call 14; refine (ksign_empty _ kb 32 _ (H5.out.cell (.head _) 1) (by omega)).mono ?_; rintro e w6 ⟨rfl, h3⟩; have H2 := H.call0 h3; clear H h3; have H := H2; clear H2; have tok3 : True := trivial)
          | (clear tok3; go_at_call 15; refine (knext_any _ kb 32 ((H5.out.call0 H).cell (.head _) 1)).mono ?_; rintro e w7 ⟨rfl, h3⟩; have H2 := H.call0 h3; clear H h3; have H := H2; clear H2; have tok4 : True := trivial))
        refine ⟨⟨i + 1, m, cs, by omega, by go_num, rfl, by have := hm4.out; omega, hcs'.out, ?_⟩, by simp [intOf]; omega⟩
        rw [hm4.out]
        exact H5.out.call0 H
    · have hi35 : i = 35 := by omega
      subst hi35
      have hm2 : u + m = 32 := by omega
      have hm3 : ((u + m : Nat) : Int) = 32 := by omega
      have hm4 : (m : Int) = 32 - (u : Int) := by omega
      rw [hm3] at HR
      rw [hm4]
      clear hm hm2 hm3 hm4 hin
      have tok1 : True := trivial
      go_wp2_with (first
        | (clear tok1; go_at_call 16; refine (hto.out _).mono ?_; rintro e w8 ⟨rfl, h3⟩; have H2 := H.call0 h3; clear H h3; have H := H2; clear H2; have tok2 : True := trivial)
        | (clear tok2; go_at_call 13; refine (kreserve_high _ kb 32 33 ((HR.out.call0 H).cell (.head _) 2) (by omega) (by omega)).mono ?_; rintro e w9 ⟨rfl, h3⟩; have H2 := H.call0 h3; clear H h3; have H := H2; clear H2; have tok3 : True := trivial)
        | (clear tok3; go_at_call 13; refine (kreserve_ok _ kb tb 32 32 32 ((HR.out.call0 H).sub1 (.head _)) (by omega) (by omega)).mono ?_; rintro e w10 ⟨rfl, h3⟩; have HE := Lib.hid (Own.next (L := [_]) (M := [_]) (HR.out.call0 H) h3 rfl); clear H h3; have tok4 : True := trivial))
      have HF := Lib.hid (HE.out.end0 (by simp; omega))
      go_ret
      exact ⟨rfl, HF.out⟩

end Go.Proofs.Ytfihlmnbonnekaa
