/- chirographlaw15.KeyPlays: the walk. -/
import Derived.Test.YtfihlmnbonnekaaKEnds
import Derived.Test.YtfihlmnbonnekaaInts
import Derived.Test.YtfihlmnbonnekaaRLms
namespace Go.Proofs.Ytfihlmnbonnekaa
open Go.RowKit

theorem perm_12 {α : Type} (x a b c : α) : List.Perm [x, a, b, c] [a, b, x, c] :=
  (List.perm_append_comm (l₁ := [x]) (l₂ := [a, b])).append_right [c]
theorem Own.subl3 {w : World} {L : List Ent} {a b : Ent} (h : Own w w (a :: b :: L)) : Own w w [a, b] := ⟨rfl, rfl, rfl, Nat.le_refl _, fun _ _ _ => rfl, by have := h.nodup; simp at this ⊢; exact this.1.1, fun b cs T hm => h.here b cs T (by simp at hm ⊢; rcases hm with hm | hm <;> simp [hm])⟩
set_option maxRecDepth 100000 in
set_option maxHeartbeats 8000000 in
theorem keyPlays_bad (w : World) (s0 : Int) (n0 : Int) (pl : Option Addr) (nl cl : Nat) (xs : List Int) (O : OldI w (.slice pl nl cl) xs) (hnl : xs.length = nl) (hbad : n0 < 0 ∨ (0 ≤ n0 ∧ 32 < n0)) :
    Calls Try.prog 4 #[.int .i64 s0, .int .i64 n0, .slice pl nl cl] w fun e w' => e = .returned (.bool true) ∧ Own w w' [] := by
  have H := Own.refl w
  have hto := Lib.hid ktold_any
  obtain ⟨id, sd, h16, h32, hidb, hsdb, hsec⟩ := secret13_any s0 0
  have hsec := Lib.hid hsec
  have h48 : (id ++ sd).length = 48 := by rw [List.length_append, h16, h32]
  have hsz48 := Lib.hid (size_secretL h16 h32)
  have hnw : Hid (∀ w' (u : Int), 0 ≤ u → u ≤ 32 → Calls Try.prog 11 #[.agg (u8s (id ++ sd)).toArray, .int .i64 2, .int .i64 u] w' fun e w'' => ∃ kb tb, e = .returned (.tuple #[.pointer (some ⟨kb, 0, none⟩), .int .i64 0]) ∧ w'.heap.size ≤ kb ∧ w'.heap.size ≤ tb ∧ Own w' w'' [(kb, sgC tb u u, 74), (tb, treeG (id ++ sd) 2 0 0 (List.replicate 2048 0) 0, 104)]) := fun w' u h1 h2 => knew_any w' _ h48 2 (by omega) u h1 h2
  have hsg : Hid (∀ w' kb tb (n r : Int) cs mv msg, 0 ≤ n → n < 32 → n < r → IsTree id sd 2 cs → Old w' mv msg → IsBytes msg → msg.length ≤ 90000 → Own w' w' [(kb, sgC tb n r, 74), (tb, cs, 104)] → (∀ k, blk mv = some k → k ≠ kb) → (∀ k, blk mv = some k → k ≠ tb) → Calls Try.prog 14 #[.pointer (some ⟨kb, 0, none⟩), mv] w' fun e w'' => ∃ g c, e = .returned (.tuple #[.slice (some ⟨g, 0, none⟩) 4460 c, .int .i64 0]) ∧ 4460 ≤ c ∧ w'.heap.size ≤ g ∧ g < w''.heap.size ∧ BufS w'.heap.size (lsigOf id sd 2 n.toNat msg) w'' (.slice (some ⟨g, 0, none⟩) 4460 c) ∧ Own w' w'' [(kb, sgC tb (n + 1) r, 74), (tb, fullT id sd 2, 104)]) :=
    fun w' kb tb n r cs mv msg h1 h2 h3 h4 h5 h6 h7 h8 h9 h10 => ksign_any w' kb tb n r h1 h2 h3 id sd h16 h32 2 (by omega) cs h4 mv msg h5 h6 h7 h8 h9 h10 rfl
  obtain ⟨IT, hIT⟩ : ∃ I, I = IsTree id sd 2 := ⟨_, rfl⟩
  obtain ⟨SG, hSG⟩ : ∃ s, s = lsigOf id sd 2 := ⟨_, rfl⟩
  obtain ⟨FT, hFT⟩ : ∃ s, s = fullT id sd 2 := ⟨_, rfl⟩
  obtain ⟨T0, hT0⟩ : ∃ s, s = treeG (id ++ sd) 2 0 0 (List.replicate 2048 0) 0 := ⟨_, rfl⟩
  have hi0 : Hid (IT T0) := by show IT T0; rw [hIT, hT0]; exact Or.inl rfl
  have hi1 : Hid (IT FT) := by show IT FT; rw [hIT, hFT]; exact Or.inr rfl
  rw [← hT0] at hnw
  rw [← hIT, ← hSG, ← hFT] at hsg
  have hnb : Hid (∀ w', Calls Try.prog 11 #[.agg (u8s (id ++ sd)).toArray, .int .i64 2, .int .i64 n0] w' fun e w'' => e = .returned (.tuple #[.pointer none, .int .i64 1]) ∧ Own w' w'' []) := fun w' => knew_u w' _ h48 2 (by omega) n0 hbad
  have _ := O
  have _ := hnl
  clear h16 h32 h48 hidb hsdb hIT hSG hFT hT0 O hnl hnw hsg hi0 hi1
  rcases hbad with hbad | ⟨hbad1, hbad⟩
  all_goals
    go_enter Try.func4, Try.ntmps4
    have tok1 : True := trivial
    go_wp2_with (first
      | (clear tok1; go_at_call 12; refine (hsec.out _).mono ?_; rintro e w1 ⟨rfl, h3⟩; have H2 := H.call0 h3; clear H h3; have H := H2; clear H2; have tok2 : True := trivial)
      | (clear tok2; refine st_new rfl (rn_alloc (cs := u8s (List.replicate 48 0)) H rfl (by kernel_rfl)) ?_; clear H; intro b7 w2 hb7 H; have tok3 : True := trivial)
      | (clear tok3; refine st_skip rfl (rn_storeAll (vs := u8s (id ++ sd)) H rfl rfl rfl hsz48.out .head (by have := hsz48.out; rw [size_secret] at this; simp at this; rw [length_ints, length_ints, List.length_append]; simp; omega) (oneCell_ints _ _)) ?_; clear H; intro w3 H; have tok4 : True := trivial)
      | (clear tok4; refine st_val rfl (rn_loadAll (cs := u8s (id ++ sd)) H rfl rfl (.head _) rfl rfl hsz48.out) ?_; have tok5 : True := trivial)
      | (clear tok5; go_at_call 11; refine (hnb.out _).mono ?_; rintro e w4 ⟨rfl, h3⟩; have H2 := H.call0 h3; clear H h3; have H := H2; clear H2; have tok6 : True := trivial)
      | (clear tok6; go_at_call 16; refine (hto.out _).mono ?_; rintro e w5 ⟨rfl, h3⟩; have H2 := H.call0 h3; clear H h3; have H := H2; clear H2; have tok7 : True := trivial))
    have HE := Lib.hid (H.end0 (by simpa using hb7))
    clear H
    go_ret
    exact ⟨rfl, HE.out⟩
set_option maxRecDepth 100000 in
set_option maxHeartbeats 8000000 in
theorem keyPlays_ok (w : World) (s0 : Int) (n0 : Int) (pl : Option Addr) (nl cl : Nat) (xs : List Int) (O : OldI w (.slice pl nl cl) xs) (hnl : xs.length = nl) (hn0 : 0 ≤ n0) (hn1 : n0 ≤ 32) :
    Calls Try.prog 4 #[.int .i64 s0, .int .i64 n0, .slice pl nl cl] w fun e w' => e = .returned (.bool true) ∧ Own w w' [] := by
  have H := Own.refl w
  have hto := Lib.hid ktold_any
  obtain ⟨id, sd, h16, h32, hidb, hsdb, hsec⟩ := secret13_any s0 0
  have hsec := Lib.hid hsec
  have h48 : (id ++ sd).length = 48 := by rw [List.length_append, h16, h32]
  have hsz48 := Lib.hid (size_secretL h16 h32)
  have hnw : Hid (∀ w' (u : Int), 0 ≤ u → u ≤ 32 → Calls Try.prog 11 #[.agg (u8s (id ++ sd)).toArray, .int .i64 2, .int .i64 u] w' fun e w'' => ∃ kb tb, e = .returned (.tuple #[.pointer (some ⟨kb, 0, none⟩), .int .i64 0]) ∧ w'.heap.size ≤ kb ∧ w'.heap.size ≤ tb ∧ Own w' w'' [(kb, sgC tb u u, 74), (tb, treeG (id ++ sd) 2 0 0 (List.replicate 2048 0) 0, 104)]) := fun w' u h1 h2 => knew_any w' _ h48 2 (by omega) u h1 h2
  have hsg : Hid (∀ w' kb tb (n r : Int) cs mv msg, 0 ≤ n → n < 32 → n < r → IsTree id sd 2 cs → Old w' mv msg → IsBytes msg → msg.length ≤ 90000 → Own w' w' [(kb, sgC tb n r, 74), (tb, cs, 104)] → (∀ k, blk mv = some k → k ≠ kb) → (∀ k, blk mv = some k → k ≠ tb) → Calls Try.prog 14 #[.pointer (some ⟨kb, 0, none⟩), mv] w' fun e w'' => ∃ g c, e = .returned (.tuple #[.slice (some ⟨g, 0, none⟩) 4460 c, .int .i64 0]) ∧ 4460 ≤ c ∧ w'.heap.size ≤ g ∧ g < w''.heap.size ∧ BufS w'.heap.size (lsigOf id sd 2 n.toNat msg) w'' (.slice (some ⟨g, 0, none⟩) 4460 c) ∧ Own w' w'' [(kb, sgC tb (n + 1) r, 74), (tb, fullT id sd 2, 104)]) :=
    fun w' kb tb n r cs mv msg h1 h2 h3 h4 h5 h6 h7 h8 h9 h10 => ksign_any w' kb tb n r h1 h2 h3 id sd h16 h32 2 (by omega) cs h4 mv msg h5 h6 h7 h8 h9 h10 rfl
  obtain ⟨IT, hIT⟩ : ∃ I, I = IsTree id sd 2 := ⟨_, rfl⟩
  obtain ⟨SG, hSG⟩ : ∃ s, s = lsigOf id sd 2 := ⟨_, rfl⟩
  obtain ⟨FT, hFT⟩ : ∃ s, s = fullT id sd 2 := ⟨_, rfl⟩
  obtain ⟨T0, hT0⟩ : ∃ s, s = treeG (id ++ sd) 2 0 0 (List.replicate 2048 0) 0 := ⟨_, rfl⟩
  have hi0 : Hid (IT T0) := by show IT T0; rw [hIT, hT0]; exact Or.inl rfl
  have hi1 : Hid (IT FT) := by show IT FT; rw [hIT, hFT]; exact Or.inr rfl
  have hrn : Hid (∀ w', Calls Try.prog 17 #[.agg (u8s (id ++ sd)).toArray, .int .i64 2] w' fun e w'' => ∃ b, e = .returned (.pointer (some ⟨b, 0, none⟩)) ∧ w'.heap.size ≤ b ∧ Own w' w'' [(b, rtC (id ++ sd) 2 (tblOf (nodeOf id sd 2) 0), 82)]) := fun w' => rtnew_any w' id sd h16 h32 hidb hsdb 2 (by omega)
  have hrp : Hid (∀ w' b, RTreeAt w' b id sd 2 → Calls Try.prog 23 #[.pointer (some ⟨b, 0, none⟩)] w' fun e w'' => ∃ p c, e = .returned (.slice p 56 c) ∧ Old w'' (.slice p 56 c) (pubL id sd 2) ∧ Own w' w'' []) := fun w' b h => rtpub_any w' b id sd h16 h32 hidb 2 (by omega) h
  have hrs : Hid (∀ w' b (n : Int) mv msg, 0 ≤ n → n < 32 → RTreeAt w' b id sd 2 → Old w' mv msg → IsBytes msg → msg.length ≤ 90000 → Calls Try.prog 20 #[.pointer (some ⟨b, 0, none⟩), .int .i64 n, mv] w' fun e w'' => ∃ p0 c, e = .returned (.slice p0 4460 c) ∧ Old w'' (.slice p0 4460 c) (lsigOf id sd 2 n.toNat msg) ∧ Own w' w'' []) := fun w' b n mv msg g1 g2 g3 g4 g5 g6 => by
    have h := rtsign_any w' b id sd h16 h32 hidb hsdb 2 (by omega) g3 n.toNat (by omega) mv msg g4 g5 g6 (n := 4460) rfl
    rwa [show ((n.toNat : Nat) : Int) = n by omega] at h
  have hpb : Hid (∀ w' kb tb cs, w'.cell? ⟨kb, 0, none⟩ = some (.pointer (some ⟨tb, 0, none⟩)) → IsTree id sd 2 cs → Own w' w' [(tb, cs, 104)] → Calls Try.prog 22 #[.pointer (some ⟨kb, 0, none⟩)] w' fun e w'' => ∃ p c, e = .returned (.slice p 56 c) ∧ Old w'' (.slice p 56 c) (pubL id sd 2) ∧ NewS w'.heap.size (.slice p 56 c) ∧ Own w' w'' [(tb, fullT id sd 2, 104)]) := fun w' kb tb cs h1 h2 h3 => kpub_any w' kb tb h1 id sd h16 h32 2 (by omega) cs h2 h3
  have hsmP : Hid (∀ w' v u, Old w' v (pubL id sd 2) → Old w' u (pubL id sd 2) → Calls Try.prog 19 #[v, u] w' fun e w'' => e = .returned (.bool true) ∧ Own w' w'' []) := fun w' v u h1 h2 => by
    have h := same_any w' v u _ _ h1.1 h2.1 (isBytes_pubL hidb sd 2) (isBytes_pubL hidb sd 2)
    rwa [decide_eq_true rfl] at h
  have hsmS : Hid (∀ w' v u q msg, Old w' v (lsigOf id sd 2 q msg) → Old w' u (lsigOf id sd 2 q msg) → Calls Try.prog 19 #[v, u] w' fun e w'' => e = .returned (.bool true) ∧ Own w' w'' []) := fun w' v u q msg h1 h2 => by
    have h := same_any w' v u _ _ h1.1 h2.1 (isBytes_lsigOf id sd 2 q msg) (isBytes_lsigOf id sd 2 q msg)
    rwa [decide_eq_true rfl] at h
  obtain ⟨PB, hPB⟩ : ∃ s, s = pubL id sd 2 := ⟨_, rfl⟩
  unfold RTreeAt at hrp hrs
  obtain ⟨RC, hRC⟩ : ∃ s, s = rtC (id ++ sd) 2 (tblOf (nodeOf id sd 2) 0) := ⟨_, rfl⟩
  rw [← hT0] at hnw
  rw [← hIT, ← hSG, ← hFT] at hsg
  rw [← hIT, ← hPB, ← hFT] at hpb
  rw [← hPB] at hrp hsmP
  rw [← hSG] at hrs hsmS
  rw [← hRC] at hrn hrp hrs
  have hnum : Hid (∀ w' (i : Nat), Calls Try.prog 18 #[.int .u64 (i : Int), .int .i64 8] w' fun e w'' => ∃ p c, e = .returned (.slice p 8 c) ∧ Buf 5 .u8 w' w'' [] (.slice p 8 c) (numB i 8)) := fun w' i => by
    exact (refNumB_any w' (i : Int) 8 (by omega) (by omega)).mono fun e w2 ⟨r, g1, g2⟩ => by
      obtain ⟨p, c, rfl⟩ := g2.slice
      rw [length_numB] at g1 g2
      exact ⟨p, c, g1, g2⟩
  have hnb : Hid (∀ i : Nat, IsBytes (numB i 8) ∧ (numB i 8).length ≤ 90000) := fun i => ⟨isBytes_numB _ _, by rw [length_numB]; omega⟩
  have O' := Lib.hid O
  have hnl' := Lib.hid hnl
  clear h16 h32 h48 hidb hsdb hIT hSG hFT hT0 hPB hRC O hnl
  go_enter Try.func4, Try.ntmps4
  have tok1 : True := trivial
  go_wp2_with (first
    | (clear tok1; go_at_call 12; refine (hsec.out _).mono ?_; rintro e w1 ⟨rfl, h3⟩; have H2 := H.call0 h3; clear H h3; have H := H2; clear H2; have tok2 : True := trivial)
    | (clear tok2; refine st_new rfl (rn_alloc (cs := u8s (List.replicate 48 0)) H rfl (by kernel_rfl)) ?_; clear H; intro b7 w2 hb7 H; have tok3 : True := trivial)
    | (clear tok3; refine st_skip rfl (rn_storeAll (vs := u8s (id ++ sd)) H rfl rfl rfl hsz48.out .head (by have := hsz48.out; rw [size_secret] at this; simp at this; rw [length_ints, length_ints, List.length_append]; simp; omega) (oneCell_ints _ _)) ?_; clear H; intro w3 H; have tok4 : True := trivial)
    | (clear tok4; refine st_val rfl (rn_loadAll (cs := u8s (id ++ sd)) H rfl rfl (.head _) rfl rfl hsz48.out) ?_; have tok5 : True := trivial)
    | (clear tok5; go_at_call 11; refine (hnw.out _ n0 hn0 hn1).mono ?_; rintro e w4 ⟨kb, tb, rfl, hkb, htb, h3⟩; have hkb0 := Nat.le_trans H.size hkb; have htb0 := Nat.le_trans H.size htb; have H2 := Own.call (L1 := []) H ⟨h3, by simp; omega⟩ (by simp); clear H h3 hkb htb; have H := H2; clear H2; have tok6 : True := trivial)
    | (clear tok6; refine st_val rfl (rn_loadAll (cs := u8s (id ++ sd)) H rfl rfl (.tail _ (.tail _ (.head _))) rfl rfl hsz48.out) ?_; have tok7 : True := trivial)
    | (clear tok7; go_at_call 17; refine (hrn.out _).mono ?_; rintro e w5 ⟨bx, rfl, hbx, h3⟩; have hbx0 := Nat.le_trans H.size hbx; have H2 := H.callNew h3 hbx; clear H h3 hbx; have H := H2.perm (perm_12 _ _ _ _); clear H2; have tok8 : True := trivial))
  clear hsec hnw hrn
  go_loopw [11, 12, 13, 14, 15, 16, 17, 18, 19, 20] (fun v11 v12 v13 _ _ _ _ _ _ _ wr => ∃ (i : Nat) (n r : Int) (cs : List Value), i ≤ 60 ∧ i ≤ nl ∧ v11 = .int .i64 n ∧ v12 = .int .i64 r ∧ v13 = .int .i64 ((i : Nat) : Int) ∧ 0 ≤ n ∧ n ≤ r ∧ r ≤ 32 ∧ IT cs ∧ Own w wr [(kb, sgC tb n r, 74), (tb, cs, 104), (bx, RC, 82), (b7, u8s (id ++ sd), 30)]) (fun _ _ v13 _ _ _ _ _ _ _ _ => ((60 : Nat) - intOf v13).toNat)
  case atStart => exact ⟨0, n0, n0, T0, by omega, by omega, rfl, rfl, rfl, by omega, by omega, by omega, hi0.out, H⟩
  case round =>
    clear H
    obtain ⟨i, n, r, cs, hi, hil, rfl, rfl, rfl, hn0, hnr, hr, hcs, H⟩ := hrel
    have HR := Lib.hid H
    have hcs' := Lib.hid hcs
    have hkw := HR.out.lt (.head _)
    have htw := HR.out.lt (.tail _ (.head _))
    clear H hcs
    have H := Own.refl wr
    have hLn : Hid (∀ b ∈ ([(kb, sgC tb n r, 74), (tb, cs, 104), (bx, RC, 82), (b7, u8s (id ++ sd), 30)] : List Ent).map (·.1), w.heap.size ≤ b) := by
      show ∀ b ∈ _, _
      simp
      omega
    by_cases hin : i < nl ∧ i < 60
    · obtain ⟨hin1, hin2⟩ := hin
      obtain ⟨x, hx⟩ : ∃ x, xs[i]? = some x := ⟨_, List.getElem?_eq_getElem (by have := hnl'.out; omega)⟩
      obtain ⟨og, oo, hp0⟩ := O'.out.addr (by have := hnl'.out; omega)
      subst hp0
      have hcell : Hid (∀ w1 L1, Own w w1 L1 → (∀ b ∈ L1.map (·.1), w.heap.size ≤ b) → w1.cell? ⟨og, oo + (i : Int).toNat * 1, none⟩ = some (.int .i64 x)) := fun w1 L1 h1 h2 => by
        exact O'.out.cellAt h1 h2 (by simpa using hx)
      clear hx
      by_cases hpar : bits .and .i64 x 1 = 0
      · obtain ⟨m, hm⟩ : ∃ m : Int, wrap64 (x.tdiv 2) = m := ⟨_, rfl⟩
        have hm2 : IntKind.i64.wrap (x.tdiv 2) = m := (IntWalk.i64_left _).trans hm
        rcases (show m < r ∨ (r ≤ m ∧ 32 < m) ∨ (r ≤ m ∧ m ≤ 32) by omega) with hc | ⟨hc1, hc2⟩ | ⟨hc1, hc2⟩
        · have hd1 : decide (r ≤ m) = false := decide_eq_false (by omega)
          have tok1 : True := trivial
          go_wp2_with (first
            | (refine st_val rfl (rn_idxSl (j := (i : Int)) rfl rfl size_i64 rfl rfl (by omega) (by omega)) ?_)
            | (refine st_val rfl (rn_cell (i := oo + (i : Int).toNat * 1) rfl rfl rfl rfl (hcell.out _ _ (HR.out.call0 H) hLn.out)) ?_)
            | (clear tok1; go_at_call 13; refine (kreserve_low _ kb r m ((HR.out.call0 H).cell (.head _) 2) hc).mono ?_; rintro e w6 ⟨rfl, h3⟩; have H2 := H.call0 h3; clear H h3; have H := H2; clear H2; have tok2 : True := trivial)
            | (clear tok2; go_at_call 15; refine (knext_any _ kb n ((HR.out.call0 H).cell (.head _) 1)).mono ?_; rintro e w11 ⟨rfl, h3⟩; have H2 := H.call0 h3; clear H h3; have H := H2; clear H2; have tok3 : True := trivial)
            | (clear tok3; go_at_call 21; refine (kresd_any _ kb r ((HR.out.call0 H).cell (.head _) 2)).mono ?_; rintro e w12 ⟨rfl, h3⟩; have H2 := H.call0 h3; clear H h3; have H := H2; clear H2; have tok4 : True := trivial))
          exact ⟨⟨i + 1, n, r, cs, by omega, by omega, rfl, rfl, by go_num, hn0, hnr, hr, hcs'.out, HR.out.call0 H⟩, by simp [intOf]; omega⟩
        · have hd1 : decide (r ≤ m) = true := decide_eq_true hc1
          have hd2 : decide (m ≤ 32) = false := decide_eq_false (by omega)
          have tok1 : True := trivial
          go_wp2_with (first
            | (refine st_val rfl (rn_idxSl (j := (i : Int)) rfl rfl size_i64 rfl rfl (by omega) (by omega)) ?_)
            | (refine st_val rfl (rn_cell (i := oo + (i : Int).toNat * 1) rfl rfl rfl rfl (hcell.out _ _ (HR.out.call0 H) hLn.out)) ?_)
            | (clear tok1; go_at_call 13; refine (kreserve_high _ kb r m ((HR.out.call0 H).cell (.head _) 2) hc1 hc2).mono ?_; rintro e w6 ⟨rfl, h3⟩; have H2 := H.call0 h3; clear H h3; have H := H2; clear H2; have tok2 : True := trivial)
            | (clear tok2; go_at_call 15; refine (knext_any _ kb n ((HR.out.call0 H).cell (.head _) 1)).mono ?_; rintro e w11 ⟨rfl, h3⟩; have H2 := H.call0 h3; clear H h3; have H := H2; clear H2; have tok3 : True := trivial)
            | (clear tok3; go_at_call 21; refine (kresd_any _ kb r ((HR.out.call0 H).cell (.head _) 2)).mono ?_; rintro e w12 ⟨rfl, h3⟩; have H2 := H.call0 h3; clear H h3; have H := H2; clear H2; have tok4 : True := trivial))
          exact ⟨⟨i + 1, n, r, cs, by omega, by omega, rfl, rfl, by go_num, hn0, hnr, hr, hcs'.out, HR.out.call0 H⟩, by simp [intOf]; omega⟩
        · have hd1 : decide (r ≤ m) = true := decide_eq_true hc1
          have hd2 : decide (m ≤ 32) = true := decide_eq_true hc2
          have tok1 : True := trivial
          go_wp2_with (first
            | (refine st_val rfl (rn_idxSl (j := (i : Int)) rfl rfl size_i64 rfl rfl (by omega) (by omega)) ?_)
            | (refine st_val rfl (rn_cell (i := oo + (i : Int).toNat * 1) rfl rfl rfl rfl (hcell.out _ _ (HR.out.call0 H) hLn.out)) ?_)
            | (clear tok1; go_at_call 13; refine (kreserve_ok _ kb tb n r m ((HR.out.call0 H).sub1 (.head _)) hc1 hc2).mono ?_; rintro e w6 ⟨rfl, h3⟩; have HN := Lib.hid (Own.next (L := [_]) (M := [_, _, _]) (HR.out.call0 H) h3 rfl); clear h3 H; have H := Own.refl w6; have tok2 : True := trivial)
            | (clear tok2; go_at_call 15; refine (knext_any _ kb n ((HN.out.call0 H).cell (.head _) 1)).mono ?_; rintro e w11 ⟨rfl, h3⟩; have H2 := H.call0 h3; clear H h3; have H := H2; clear H2; have tok3 : True := trivial)
            | (clear tok3; go_at_call 21; refine (kresd_any _ kb m ((HN.out.call0 H).cell (.head _) 2)).mono ?_; rintro e w12 ⟨rfl, h3⟩; have H2 := H.call0 h3; clear H h3; have H := H2; clear H2; have tok4 : True := trivial))
          exact ⟨⟨i + 1, n, m, cs, by omega, by omega, rfl, rfl, by go_num, hn0, by omega, hc2, hcs'.out, HN.out.call0 H⟩, by simp [intOf]; omega⟩
      · have hp1 : (bits .and .i64 x 1 == 0) = false := by simpa using hpar
        rcases (show (n = 32 ∧ r = 32) ∨ (n < 32 ∧ r = n) ∨ (n < 32 ∧ n < r) by omega) with ⟨rfl, rfl⟩ | ⟨hc1, rfl⟩ | ⟨hc1, hc2⟩
        · clear hn0 hnr hr
          have tok1 : True := trivial
          go_wp2_with (first
            | (refine st_val rfl (rn_idxSl (j := (i : Int)) rfl rfl size_i64 rfl rfl (by omega) (by omega)) ?_)
            | (refine st_val rfl (rn_cell (i := oo + (i : Int).toNat * 1) rfl rfl rfl rfl (hcell.out _ _ (HR.out.call0 H) hLn.out)) ?_)
            | (clear tok1; go_at_call 18; refine (hnum.out _ i).mono ?_; rintro e w6 ⟨p1, c1, rfl, hB⟩; have M6 := Lib.hid hB; have hM9 : Hid (∀ k, blk (Value.slice p1 8 c1) = some k → wr.heap.size ≤ k) := (fun k hk => Nat.le_trans H.size (hB.new k hk)); have H2 := H.call0 hB.own0; clear H hB; have H := H2; clear H2; have tok2 : True := trivial)
            | (clear tok2; go_at_call 14; refine (ksign_empty _ kb 32 _ ((HR.out.call0 H).cell (.head _) 1) (by omega)).mono ?_; rintro e w7 ⟨rfl, h3⟩; have H2 := H.call0 h3; clear H h3; have H := H2; clear H2; have tok3 : True := trivial)
            | (clear tok3; go_at_call 15; refine (knext_any _ kb 32 ((HR.out.call0 H).cell (.head _) 1)).mono ?_; rintro e w11 ⟨rfl, h3⟩; have H2 := H.call0 h3; clear H h3; have H := H2; clear H2; have tok4 : True := trivial)
            | (clear tok4; go_at_call 21; refine (kresd_any _ kb 32 ((HR.out.call0 H).cell (.head _) 2)).mono ?_; rintro e w12 ⟨rfl, h3⟩; have H2 := H.call0 h3; clear H h3; have H := H2; clear H2; have tok5 : True := trivial))
          exact ⟨⟨i + 1, 32, 32, cs, by omega, by omega, rfl, rfl, by go_num, by omega, by omega, by omega, hcs'.out, HR.out.call0 H⟩, by simp [intOf]; omega⟩
        · have hd1 : (r == 32) = false := by simp; omega
          have hd2 : decide (r ≤ r) = true := decide_eq_true (by omega)
          have tok1 : True := trivial
          go_wp2_with (first
            | (refine st_val rfl (rn_idxSl (j := (i : Int)) rfl rfl size_i64 rfl rfl (by omega) (by omega)) ?_)
            | (refine st_val rfl (rn_cell (i := oo + (i : Int).toNat * 1) rfl rfl rfl rfl (hcell.out _ _ (HR.out.call0 H) hLn.out)) ?_)
            | (clear tok1; go_at_call 18; refine (hnum.out _ i).mono ?_; rintro e w6 ⟨p1, c1, rfl, hB⟩; have M6 := Lib.hid hB; have hM9 : Hid (∀ k, blk (Value.slice p1 8 c1) = some k → wr.heap.size ≤ k) := (fun k hk => Nat.le_trans H.size (hB.new k hk)); have H2 := H.call0 hB.own0; clear H hB; have H := H2; clear H2; have tok2 : True := trivial)
            | (clear tok2; go_at_call 14; refine (ksign_none _ kb tb r r _ hc1 (by omega) ((HR.out.call0 H).sub1 (.head _))).mono ?_; rintro e w7 ⟨rfl, h3⟩; have H2 := H.call0 h3; clear H h3; have H := H2; clear H2; have tok3 : True := trivial)
            | (clear tok3; go_at_call 15; refine (knext_any _ kb r ((HR.out.call0 H).cell (.head _) 1)).mono ?_; rintro e w11 ⟨rfl, h3⟩; have H2 := H.call0 h3; clear H h3; have H := H2; clear H2; have tok4 : True := trivial)
            | (clear tok4; go_at_call 21; refine (kresd_any _ kb r ((HR.out.call0 H).cell (.head _) 2)).mono ?_; rintro e w12 ⟨rfl, h3⟩; have H2 := H.call0 h3; clear H h3; have H := H2; clear H2; have tok5 : True := trivial))
          exact ⟨⟨i + 1, r, r, cs, by omega, by omega, rfl, rfl, by go_num, hn0, by omega, hr, hcs'.out, HR.out.call0 H⟩, by simp [intOf]; omega⟩
        · have hd1 : (n == 32) = false := by simp; omega
          have hd2 : decide (r ≤ n) = false := decide_eq_false (by omega)
          have hb8 := Lib.hid (hnb.out i)
          have tok1 : True := trivial
          go_wp2_with (first
            | (refine st_val rfl (rn_idxSl (j := (i : Int)) rfl rfl size_i64 rfl rfl (by omega) (by omega)) ?_)
            | (refine st_val rfl (rn_cell (i := oo + (i : Int).toNat * 1) rfl rfl rfl rfl (hcell.out _ _ (HR.out.call0 H) hLn.out)) ?_)
            | (clear tok1; go_at_call 18; refine (hnum.out _ i).mono ?_; rintro e w6 ⟨p1, c1, rfl, hB⟩; have M6 := Lib.hid hB; have hM9 : Hid (∀ k, blk (Value.slice p1 8 c1) = some k → wr.heap.size ≤ k) := (fun k hk => Nat.le_trans H.size (hB.new k hk)); have H2 := H.call0 hB.own0; clear H hB; have H := H2; clear H2; have tok2 : True := trivial)
            | (clear tok2; go_at_call 14; refine (hsg.out _ kb tb n r cs _ (numB i 8) hn0 hc1 hc2 hcs'.out ⟨M6.out.bytesAt, M6.out.lt⟩ hb8.out.1 hb8.out.2 ((HR.out.call0 H).self2.subl3) (fun k hk => by have := hM9.out k hk; omega) (fun k hk => by have := hM9.out k hk; omega)).mono ?_; rintro e w7 ⟨g, c7, rfl, h1, h2, h4, h5, h6⟩; have S7 := Lib.hid h5; have HN := Lib.hid (Own.next (L := [_, _]) (M := [_, _]) (HR.out.call0 H) h6 rfl); have M7 := Lib.hid (show Old w7 (.slice p1 8 c1) (numB i 8) from ⟨SlAt.own M6.out.bytesAt h6 (fun k hk hm2 => by have := hM9.out k hk; simp at hm2; omega), fun k hk => Nat.lt_of_lt_of_le (M6.out.lt k hk) h6.size⟩); clear h1 h2 h4 h5 h6 M6 H; have H := Own.refl w7; have tok3 : True := trivial)
            | (clear tok3; go_at_call 20; refine (hrs.out _ bx n _ (numB i 8) hn0 hc1 (HN.out.here _ _ _ (.tail _ (.tail _ (.head _)))) M7.out hb8.out.1 hb8.out.2).mono ?_; rintro e w8 ⟨p8, c8, rfl, hP, h3⟩; have P8 := Lib.hid hP; have H2 := H.call0 h3; clear H h3 hP; have H := H2; clear H2; have tok4 : True := trivial)
            | (clear tok4; go_at_call 19; refine (hsmS.out _ _ _ n.toNat (numB i 8) ((S7.out.mv H (by simp)).old) P8.out).mono ?_; rintro e w9 ⟨rfl, h3⟩; have H2 := H.call0 h3; clear H h3; have H := H2; clear H2; have tok5 : True := trivial)
            | (clear tok5; go_at_call 15; refine (knext_any _ kb (n + 1) ((HN.out.call0 H).cell (.head _) 1)).mono ?_; rintro e w11 ⟨rfl, h3⟩; have H2 := H.call0 h3; clear H h3; have H := H2; clear H2; have tok6 : True := trivial)
            | (clear tok6; go_at_call 21; refine (kresd_any _ kb r ((HN.out.call0 H).cell (.head _) 2)).mono ?_; rintro e w12 ⟨rfl, h3⟩; have H2 := H.call0 h3; clear H h3; have H := H2; clear H2; have tok7 : True := trivial))
          exact ⟨⟨i + 1, n + 1, r, FT, by omega, by omega, rfl, rfl, by go_num, by omega, by omega, hr, hi1.out, HN.out.call0 H⟩, by simp [intOf]; omega⟩
    · rcases (show ¬ i < nl ∨ (i < nl ∧ ¬ i < 60) by omega) with hq1 | ⟨hq1, hq2⟩
      all_goals
        clear hin
        have tok1 : True := trivial
        go_wp2_with (first
          | (clear tok1; go_at_call 16; refine (hto.out _).mono ?_; rintro e w8 ⟨rfl, h3⟩; have H2 := H.call0 h3; clear H h3; have H := H2; clear H2; have tok2 : True := trivial)
          | (clear tok2; go_at_call 22; refine (hpb.out _ kb tb cs ((HR.out.call0 H).cell (.head _) 0) hcs'.out ((HR.out.call0 H).sub1 (.tail _ (.head _)))).mono ?_; rintro e w9 ⟨pp, pc, rfl, hP, hPn, h3⟩; have P9 := Lib.hid hP; have HN := Lib.hid (Own.callAt (L1 := [_]) (HR.out.call0 H) h3); clear H h3 hP hPn; have H := Own.refl w9; have tok3 : True := trivial)
          | (clear tok3; go_at_call 23; refine (hrp.out _ bx ((HN.out.call0 H).here _ _ _ (.tail _ (.tail _ (.head _))))).mono ?_; rintro e w10 ⟨rp, rc, rfl, hP, h3⟩; have R10 := Lib.hid hP; have H2 := H.call0 h3; clear H h3 hP; have H := H2; clear H2; have tok4 : True := trivial)
          | (clear tok4; go_at_call 19; refine (hsmP.out _ _ _ (P9.out.mv H (by simp)) R10.out).mono ?_; rintro e w11 ⟨rfl, h3⟩; have H2 := H.call0 h3; clear H h3; have H := H2; clear H2; have tok5 : True := trivial))
        have HE := Lib.hid ((HN.out.call0 H).end0 (by simp; omega))
        clear H
        go_ret
        exact ⟨rfl, HE.out⟩
set_option maxRecDepth 100000 in
set_option maxHeartbeats 8000000 in
theorem keyPlays_row (w : World) (s0 : Int) (_ : IntKind.i64.min ≤ s0) (_ : s0 ≤ IntKind.i64.max) (n0 : Int) (_ : IntKind.i64.min ≤ n0) (_ : n0 ≤ IntKind.i64.max) (lv : Value) (xs : List Int) (O : OldI w lv xs) :
    Calls Try.prog 4 #[.int .i64 s0, .int .i64 n0, lv] w fun e w' => e = .returned (.bool true) ∧ Own w w' [] := by
  rename_i q1 q2 q3 q4
  clear q1 q2 q3 q4
  obtain ⟨pl, nl, cl, rfl⟩ : ∃ p n c, lv = .slice p n c := by
    rcases O.sl with ⟨⟨p, rfl⟩, _, _⟩ | ⟨b, off, cap, rfl, _, _⟩
    · exact ⟨_, _, _, rfl⟩
    · exact ⟨_, _, _, rfl⟩
  have hnl : xs.length = nl := by
    rcases O.sl with ⟨⟨p, e⟩, h0, _⟩ | ⟨b, off, cap, e, _, _⟩
    · cases e; omega
    · have e2 := congrArg (fun v => match v with | Value.slice _ n _ => n | _ => 0) e; exact e2.symm
  by_cases h : 0 ≤ n0 ∧ n0 ≤ 32
  · exact keyPlays_ok w s0 n0 pl nl cl xs O hnl h.1 h.2
  · exact keyPlays_bad w s0 n0 pl nl cl xs O hnl (by omega)

end Go.Proofs.Ytfihlmnbonnekaa
