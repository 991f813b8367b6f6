/- chirographlaw15.KeySigns: the walk. -/
import Derived.Test.YtfihlmnbonnekaaKEnds
namespace Go.Proofs.Ytfihlmnbonnekaa
open Go.RowKit

theorem sig_3 (id sd : List Int) (k q : Nat) (hq : q < 32) (msg : List Int) : (u8s (lsigOf id sd k q msg))[3]? = some (.int .u8 (q : Int)) := by
  rw [lsig_eq, numB_small q hq]
  rfl
set_option maxRecDepth 100000 in
set_option maxHeartbeats 8000000 in
theorem keySigns_row (w : World) (s0 : Int) (_ : IntKind.i64.min ≤ s0) (_ : s0 ≤ IntKind.i64.max) (u0 : Int) (_ : IntKind.i64.min ≤ u0) (_ : u0 ≤ IntKind.i64.max) (r0 : Int) (_ : IntKind.i64.min ≤ r0) (_ : r0 ≤ IntKind.i64.max) (lv : Value) (ls : List (Value × List Int)) (O : OldL w lv ls) :
    Calls Try.prog 8 #[.int .i64 s0, .int .i64 u0, .int .i64 r0, lv] w fun e w' => e = .returned (.bool true) ∧ Own w w' [] := by
  rename_i q1 q2 q3 q4 q5 q6
  clear q1 q2 q3 q4 q5 q6
  have H := Own.refl w
  have hto := Lib.hid ktold_any
  obtain ⟨id, sd, h16, h32, hidb, hsdb, hsec⟩ := secret13_any s0 2
  have hsec := Lib.hid hsec
  have h48 : (id ++ sd).length = 48 := by rw [List.length_append, h16, h32]
  have hsz48 := Lib.hid (size_secretL h16 h32)
  have hnw : Hid (∀ w' (u : Int), 0 ≤ u → u ≤ 32 → Calls Try.prog 11 #[.agg (u8s (id ++ sd)).toArray, .int .i64 2, .int .i64 u] w' fun e w'' => ∃ kb tb, e = .returned (.tuple #[.pointer (some ⟨kb, 0, none⟩), .int .i64 0]) ∧ w'.heap.size ≤ kb ∧ w'.heap.size ≤ tb ∧ Own w' w'' [(kb, sgC tb u u, 74), (tb, treeG (id ++ sd) 2 0 0 (List.replicate 2048 0) 0, 104)]) := fun w' u h1 h2 => knew_any w' _ h48 2 (by omega) u h1 h2
  have hsg : Hid (∀ w' kb tb (n r : Int) cs mv msg, 0 ≤ n → n < 32 → n < r → IsTree id sd 2 cs → Old w' mv msg → IsBytes msg → msg.length ≤ 90000 → Own w' w' [(kb, sgC tb n r, 74), (tb, cs, 104)] → (∀ k, blk mv = some k → k ≠ kb) → (∀ k, blk mv = some k → k ≠ tb) → Calls Try.prog 14 #[.pointer (some ⟨kb, 0, none⟩), mv] w' fun e w'' => ∃ g c, e = .returned (.tuple #[.slice (some ⟨g, 0, none⟩) 4460 c, .int .i64 0]) ∧ 4460 ≤ c ∧ w'.heap.size ≤ g ∧ g < w''.heap.size ∧ BufS w'.heap.size (lsigOf id sd 2 n.toNat msg) w'' (.slice (some ⟨g, 0, none⟩) 4460 c) ∧ Own w' w'' [(kb, sgC tb (n + 1) r, 74), (tb, fullT id sd 2, 104)]) :=
    fun w' kb tb n r cs mv msg h1 h2 h3 h4 h5 h6 h7 h8 h9 h10 => ksign_any w' kb tb n r h1 h2 h3 id sd h16 h32 2 (by omega) cs h4 mv msg h5 h6 h7 h8 h9 h10 rfl
  obtain ⟨IT, hIT⟩ : ∃ I, I = IsTree id sd 2 := ⟨_, rfl⟩
  obtain ⟨SG, hSG⟩ : ∃ s, s = lsigOf id sd 2 := ⟨_, rfl⟩
  obtain ⟨FT, hFT⟩ : ∃ s, s = fullT id sd 2 := ⟨_, rfl⟩
  obtain ⟨T0, hT0⟩ : ∃ s, s = treeG (id ++ sd) 2 0 0 (List.replicate 2048 0) 0 := ⟨_, rfl⟩
  have hi0 : Hid (IT T0) := by show IT T0; rw [hIT, hT0]; exact Or.inl rfl
  have hi1 : Hid (IT FT) := by show IT FT; rw [hIT, hFT]; exact Or.inr rfl
  have hpb : Hid (∀ w' kb tb cs, w'.cell? ⟨kb, 0, none⟩ = some (.pointer (some ⟨tb, 0, none⟩)) → IsTree id sd 2 cs → Own w' w' [(tb, cs, 104)] → Calls Try.prog 22 #[.pointer (some ⟨kb, 0, none⟩)] w' fun e w'' => ∃ p c, e = .returned (.slice p 56 c) ∧ Old w'' (.slice p 56 c) (pubL id sd 2) ∧ NewS w'.heap.size (.slice p 56 c) ∧ Own w' w'' [(tb, fullT id sd 2, 104)]) := fun w' kb tb cs h1 h2 h3 => kpub_any w' kb tb h1 id sd h16 h32 2 (by omega) cs h2 h3
  have hve : Hid (∀ w' v u t q msg, q < 32 → Old w' v (pubL id sd 2) → Old w' u msg → IsBytes msg → msg.length ≤ 90000 → Old w' t (lsigOf id sd 2 q msg) → Calls Try.prog 26 #[v, u, t] w' fun e w'' => e = .returned (.int .i64 0) ∧ Own w' w'' []) := fun w' v u t q msg hq h1 h2 h3 h4 h5 => by
    have h := ver_any w' v u t (pubL id sd 2) msg (lsigOf id sd 2 q msg) h1 (isBytes_pubL hidb sd 2) (by rw [length_pubL h16]; omega) h2 h3 h4 h5 (isBytes_lsigOf id sd 2 q msg) (by rw [length_lsigOf]; unfold sizeOfL chN; simp)
    rwa [ver_sig h16 sd (by omega) hq msg] at h
  have hs3 : Hid (∀ q msg, q < 32 → (u8s (lsigOf id sd 2 q msg))[3]? = some (.int .u8 (q : Int))) := fun q msg hq => sig_3 id sd 2 q hq msg
  obtain ⟨PB, hPB⟩ : ∃ s, s = pubL id sd 2 := ⟨_, rfl⟩
  rw [← hT0] at hnw
  rw [← hIT, ← hSG, ← hFT] at hsg
  rw [← hIT, ← hPB, ← hFT] at hpb
  rw [← hPB, ← hSG] at hve
  rw [← hSG] at hs3
  obtain ⟨u, hue, hu⟩ := rem_wrap u0 33 (by omega) (by omega)
  have hu32 : u ≤ 32 := by omega
  obtain ⟨d, hde, hd⟩ := rem_wrap r0 (32 - (u : Int) + 1) (by omega) (by omega)
  have hd32 : u + d ≤ 32 := by omega
  obtain ⟨pl, cl, rfl⟩ := O.addr'
  obtain ⟨nl, hnl⟩ : ∃ n, n = ls.length := ⟨_, rfl⟩
  rw [← hnl] at O ⊢
  have O' := Lib.hid O
  have hnl' := Lib.hid hnl
  clear h16 h32 h48 hidb hsdb hIT hSG hFT hT0 hPB hu hd O hnl
  go_enter Try.func8, Try.ntmps8
  have tok1 : True := trivial
  go_wp2_with (first
    | (clear tok1; go_at_call 12; refine (hsec.out _).mono ?_; rintro e w1 ⟨rfl, h3⟩; have H2 := H.call0 h3; clear H h3; have H := H2; clear H2; have tok2 : True := trivial)
    | (clear tok2; go_at_call 11; refine (hnw.out _ u (by omega) (by omega)).mono ?_; rintro e w2 ⟨kb, tb, rfl, hkb, htb, h3⟩; have hkb0 := Nat.le_trans H.size hkb; have htb0 := Nat.le_trans H.size htb; have H2 := Own.call (L1 := []) H ⟨h3, by simp; omega⟩ (by simp); clear H h3; have H := H2; clear H2; have tok3 : True := trivial)
    | (clear tok3; go_at_call 13; refine (kreserve_ok _ kb tb u u ((u : Int) + (d : Int)) (H.self2.sub1 (.head _)) (by omega) (by omega)).mono ?_; rintro e w3 ⟨rfl, h3⟩; have H2 := Own.next (L := [_]) (M := [_]) H h3 rfl; clear H h3; have H := H2; clear H2; have tok4 : True := trivial)
    | (clear tok4; go_at_call 22; refine (hpb.out _ kb tb T0 (H.cell (.head _) 0) hi0.out (H.sub1 (.tail _ (.head _)))).mono ?_; rintro e w4 ⟨pp, pc, rfl, hP, hPn, h3⟩; have P4 := Lib.hid hP; have hPk : Hid (∀ k, blk (Value.slice pp 56 pc) = some k → k ≠ kb ∧ k ≠ tb) := (fun k hk => by have := hPn k hk; have := H.lt (.head _); have := H.lt (.tail _ (.head _)); omega); have HB := Lib.hid (Own.callAt (L1 := [_]) H h3); clear H h3 hP hPn; have H := HB.out.self2; have tok5 : True := trivial))
  clear hnw hsec hpb
  go_loopw [14, 15, 16] (fun v14 _ _ wr => ∃ (i m : Nat), i ≤ 40 ∧ i ≤ nl ∧ v14 = .int .i64 ((i : Nat) : Int) ∧ ((i ≤ d ∧ m = i) ∨ (d ≤ i ∧ m = d)) ∧ Own w4 wr [(kb, sgC tb ((u : Int) + (m : Int)) ((u : Int) + (d : Int)), 74), (tb, FT, 104)]) (fun v14 _ _ _ => ((40 : Nat) - intOf v14).toNat)
  case atStart => exact ⟨0, 0, by omega, by omega, rfl, by omega, by simpa using H⟩
  case round =>
    clear H
    obtain ⟨i, m, hi, hil, rfl, hm, H⟩ := hrel
    have HR := Lib.hid H
    have hkw := HR.out.lt (.head _)
    have htw := HR.out.lt (.tail _ (.head _))
    have Pr : Hid (Old wr (.slice pp 56 pc) PB) := ⟨SlAt.own P4.out.1 HR.out (fun k hk hm2 => by have := hPk.out k hk; simp at hm2; omega), fun k hk => Nat.lt_of_lt_of_le (P4.out.2 k hk) HR.out.size⟩
    have HF : Hid (Own w wr [(kb, sgC tb ((u : Int) + (m : Int)) ((u : Int) + (d : Int)), 74), (tb, FT, 104)]) := Own.next (L := [_, _]) (M := []) HB.out HR.out rfl
    clear H
    have H := Own.refl wr
    by_cases hin : i < nl ∧ i < 40
    · obtain ⟨hin1, hin2⟩ := hin
      obtain ⟨x, hx⟩ : ∃ x, ls[i]? = some x := ⟨_, List.getElem?_eq_getElem (by have := hnl'.out; omega)⟩
      obtain ⟨hxo, ⟨px, cx, hxs⟩, hxb⟩ := O'.out.el i x hx
      obtain ⟨og, oo, hp0⟩ := O'.out.addr (by have := hnl'.out; omega)
      subst hp0
      have hcell : Hid (∀ w1 L1, Own w w1 L1 → (∀ b ∈ L1.map (·.1), w.heap.size ≤ b) → w1.cell? ⟨og, oo + (i : Int).toNat * 1, none⟩ = some (.slice px x.2.length cx)) := fun w1 L1 h1 h2 => by
        rw [← hxs]
        exact O'.out.cellAt h1 h2 (by simpa using hx)
      have hxo' : Hid (∀ w1 L1, Own w w1 L1 → (∀ b ∈ L1.map (·.1), w.heap.size ≤ b) → Old w1 (.slice px x.2.length cx) x.2) := fun w1 L1 h1 h2 => by
        rw [← hxs]
        exact hxo.mv h1 h2
      have hxn : Hid (∀ k, blk (Value.slice px x.2.length cx) = some k → k ≠ kb ∧ k ≠ tb) := fun k hk => by
        rw [← hxs] at hk
        have := hxo.2 k hk
        omega
      have hxb' : Hid (IsBytes x.2) := hxb
      obtain ⟨ys, hys⟩ : ∃ ys, x.2 = ys := ⟨_, rfl⟩
      rw [hys] at hcell hxo' hxb' hxn
      clear hxo hxs hxb hx hys
      obtain ⟨n2, hn2⟩ : ∃ n, n = ys.length := ⟨_, rfl⟩
      rw [← hn2] at hcell hxo' hxn
      have hn2' := Lib.hid hn2
      clear hn2
      by_cases hbig : 30 < n2
      · go_wp2_with (first
          | (refine st_val rfl (rn_idxSl (j := (i : Int)) rfl rfl size_sl rfl rfl (by omega) (by omega)) ?_)
          | (refine st_val rfl (rn_cell (i := oo + (i : Int).toNat * 1) rfl rfl rfl rfl (hcell.out _ _ (HF.out.call0 H) (by simp; omega))) ?_)
          | (go_at_call 16; refine (hto.out _).mono ?_; rintro e w5 ⟨rfl, h3⟩; have HE := Lib.hid ((HF.out.call0 h3).end0 (by simp; omega)); clear h3))
        go_ret
        exact ⟨rfl, HE.out⟩
      · have hn30 : n2 ≤ 30 := by omega
        clear hbig
        by_cases hlt : i < d
        · have hm2 : m = i := by omega
          subst hm2
          clear hm
          have hs3' := Lib.hid (hs3.out (u + m) ys (by omega))
          have hSl : Hid (∀ w' g c, BufS wr.heap.size (SG (u + m) ys) w' (.slice (some ⟨g, 0, none⟩) 4460 c) → w'.cell? ⟨g, 3, none⟩ = some (.int .u8 ((u : Int) + (m : Int)))) := fun w' g c h => by
            have hl : (SG (u + m) ys).length = 4460 := by obtain ⟨g2, c2, cs2, e1, _⟩ := h; have e2 := congrArg (fun v => match v with | Value.slice _ n _ => n | _ => 0) e1; exact e2.symm
            have h1 := h.old.1
            rw [← hl] at h1
            have h2 := bytes_cellV h1 3 _ hs3'.out
            rw [Nat.zero_add] at h2
            rw [h2]
            congr 2
          have htn : Hid (((u : Int) + (m : Int)).toNat = u + m) := by show _ = _; omega
          have hd1 : decide ((u : Int) + (d : Int) ≤ (u : Int) + (m : Int)) = false := decide_eq_false (by omega)
          have hd2 : decide (u + d ≤ u + m) = false := decide_eq_false (by omega)
          have hd3 : decide (d ≤ m) = false := decide_eq_false (by omega)
          have tok1 : True := trivial
          go_wp2_with (first
            | (refine st_val rfl (rn_idxSl (j := (m : Int)) rfl rfl size_sl rfl rfl (by omega) (by omega)) ?_)
            | (refine st_val rfl (rn_cell (i := oo + (m : Int).toNat * 1) rfl rfl rfl rfl (hcell.out _ _ (HF.out.call0 H) (by simp; omega))) ?_)
            | (clear tok1; go_at_call 14; refine (hsg.out _ kb tb ((u : Int) + (m : Int)) ((u : Int) + (d : Int)) FT _ ys (by omega) (by omega) (by omega) hi1.out (hxo'.out _ _ HF.out (by simp; omega)) hxb'.out (by have := hn2'.out; omega) HR.out.self2 (fun k hk => (hxn.out k hk).1) (fun k hk => (hxn.out k hk).2)).mono ?_; rintro e w6 ⟨g, c, rfl, h1, h2, h4, h5, h6⟩; rw [htn.out] at h5; have S6 := Lib.hid h5; have HN := Lib.hid (Own.next (L := [_, _]) (M := []) HR.out h6 rfl); have HF6 := Lib.hid (Own.next (L := [_, _]) (M := []) HF.out h6 rfl); have P6 := Lib.hid (show Old w6 (.slice pp 56 pc) PB from ⟨SlAt.own Pr.out.1 h6 (fun k hk hm2 => by have := hPk.out k hk; simp at hm2; omega), fun k hk => Nat.lt_of_lt_of_le (Pr.out.2 k hk) h6.size⟩); clear h1 h2 h4 h5 h6 H; have H := Own.refl w6; have tok2 : True := trivial)
            | (clear tok2; refine st_valG rfl (rn_idxSl (j := (m : Int)) rfl rfl size_sl rfl rfl (by omega) (by omega)) ?_; have tok3 : True := trivial)
            | (clear tok3; refine st_valG rfl (rn_cell (i := oo + (m : Int).toNat * 1) rfl rfl rfl rfl (hcell.out _ _ (HF6.out.call0 H) (by simp; omega))) ?_; have tok4 : True := trivial)
            | (clear tok4; go_at_call 26; refine (hve.out _ _ _ _ (u + m) ys (by omega) (P6.out.mv H (by simp)) (hxo'.out _ _ (HF6.out.call0 H) (by simp; omega)) hxb'.out (by have := hn2'.out; omega) ((S6.out.mv H (by simp)).old)).mono ?_; rintro e w7 ⟨rfl, h3⟩; have H2 := H.call0 h3; clear H h3; have H := H2; clear H2; have tok5 : True := trivial)
            | (clear tok5; refine st_valG rfl (rn_cell rfl rfl rfl rfl (hSl.out _ _ _ (S6.out.mv H (by simp)))) ?_; have tok6 : True := trivial))
          refine ⟨⟨m + 1, m + 1, by omega, by omega, by go_num, by omega, ?_⟩, by simp [intOf]; omega⟩
          have e : (u : Int) + ((m + 1 : Nat) : Int) = (u : Int) + (m : Int) + 1 := by omega
          rw [e]
          exact HN.out.call0 H
        · have hm2 : m = d := by omega
          subst hm2
          have hlt' : m ≤ i := by omega
          clear hm hlt
          have hd1 : decide ((u : Int) + (m : Int) ≤ (u : Int) + (i : Int)) = true := decide_eq_true (by omega)
          have hd2 : decide (u + m ≤ u + i) = true := decide_eq_true (by omega)
          have hd3 : decide (m ≤ i) = true := decide_eq_true (by omega)
          have hKS : Hid (∃ z : Int, z ≠ 0 ∧ ∀ mv, Calls Try.prog 14 #[.pointer (some ⟨kb, 0, none⟩), mv] wr fun e w'' => e = .returned (.tuple #[.slice none 0 0, .int .i64 z]) ∧ Own wr w'' []) := by
            by_cases h32 : 32 ≤ (u : Int) + (m : Int)
            · exact ⟨4, by omega, fun mv => ksign_empty wr kb _ mv (HR.out.cell (.head _) 1) h32⟩
            · exact ⟨6, by omega, fun mv => ksign_none wr kb tb _ _ mv (by omega) (Int.le_refl _) (HR.out.self2.sub1 (.head _))⟩
          obtain ⟨z, hz, hks⟩ := hKS.out
          have hks' := Lib.hid hks
          have hz1 : (z == 0) = false := by simpa using hz
          have hz2 : (z != 0) = true := by simpa using hz
          clear hks hKS
          have tok1 : True := trivial
          go_wp2_with (first
            | (refine st_val rfl (rn_idxSl (j := (i : Int)) rfl rfl size_sl rfl rfl (by omega) (by omega)) ?_)
            | (refine st_val rfl (rn_cell (i := oo + (i : Int).toNat * 1) rfl rfl rfl rfl (hcell.out _ _ (HF.out.call0 H) (by simp; omega))) ?_)
            | (clear tok1; go_at_call 14; refine (hks'.out _).mono ?_; rintro e w6 ⟨rfl, h3⟩; have H2 := H.call0 h3; clear H h3; have H := H2; clear H2; have tok2 : True := trivial)
            | (clear tok2; go_at_call 15; refine (knext_any _ kb ((u : Int) + (m : Int)) ((HR.out.call0 H).cell (.head _) 1)).mono ?_; rintro e w7 ⟨rfl, h3⟩; have H2 := H.call0 h3; clear H h3; have H := H2; clear H2; have tok3 : True := trivial))
          refine ⟨⟨i + 1, m, by omega, by omega, by go_num, by omega, HR.out.call0 H⟩, by simp [intOf]; omega⟩
    · rcases (show ¬ i < nl ∨ (i < nl ∧ ¬ i < 40) by omega) with hq1 | ⟨hq1, hq2⟩
      all_goals
        have hmd : m ≤ d := by omega
        clear hm hin
        have tok1 : True := trivial
        go_wp2_with (first
          | (clear tok1; go_at_call 16; refine (hto.out _).mono ?_; rintro e w8 ⟨rfl, h3⟩; have H2 := H.call0 h3; clear H h3; have H := H2; clear H2; have tok2 : True := trivial)
          | (clear tok2; go_at_call 21; refine (kresd_any _ kb ((u : Int) + (d : Int)) ((HR.out.call0 H).cell (.head _) 2)).mono ?_; rintro e w9 ⟨rfl, h3⟩; have H2 := H.call0 h3; clear H h3; have H := H2; clear H2; have tok3 : True := trivial)
          | (clear tok3; go_at_call 13; refine (kreserve_low _ kb ((u : Int) + (d : Int)) ((u : Int) + (d : Int) - 1) ((HR.out.call0 H).cell (.head _) 2) (by omega)).mono ?_; rintro e w10 ⟨rfl, h3⟩; have H2 := H.call0 h3; clear H h3; have H := H2; clear H2; have tok4 : True := trivial))
        have HE := Lib.hid ((HF.out.call0 H).end0 (by simp; omega))
        clear H
        go_ret
        exact ⟨rfl, HE.out⟩

end Go.Proofs.Ytfihlmnbonnekaa
