/- chirographlaw4.LmsAsks: the walk. -/
import Derived.Test.YtfihlmnbonnekaaGreatLHolds
namespace Go.Proofs.YtfihlmnbonnekaaGreat
open Go.RowKit

theorem rem_small (x m : Int) (h0 : 0 ≤ x) (h1 : x < m) (h2 : m ≤ 4611686018427387904) : wrap64 ((IntKind.u64.wrap x).tmod m) = x % m := by
  have e : IntKind.u64.wrap x = x := by
    simp only [IntKind.wrap, IntKind.bits, IntKind.signed]
    simp
    omega
  have e2 : x % m = x := Int.emod_eq_of_lt h0 h1
  rw [e, Int.tmod_eq_emod_of_nonneg h0, e2]
  unfold wrap64
  omega
set_option maxRecDepth 100000 in
set_option maxHeartbeats 16000000 in
theorem lmsAsks_1 (w : World) (id seed : List Int) (h16 : id.length = 16) (h32 : seed.length = 32) (hidb : IsBytes id) (hsdb : IsBytes seed) (w0 q0 r0 : Int) (pm : Option Addr) (n cm : Nat) (msg : List Int) (hO : Old w (.slice pm n cm) msg) (hmb : IsBytes msg) (hn : n = msg.length) (hn5 : n ≤ 200) (hwe : wrap64 ((IntKind.u64.wrap w0).tmod 2) = 0) :
    Calls Tryz.prog 3 #[.agg (u8s (id ++ seed)).toArray, .int .i64 w0, .int .i64 q0, .slice pm n cm, .int .i64 r0] w fun e w' => e = .returned (.bool true) ∧ Own w w' [] := by
  have H := Own.refl w
  have hto := Lib.hid ltold_any
  have h48 : (id ++ seed).length = 48 := by rw [List.length_append, h16, h32]
  have hsz48 := Lib.hid (size_secretL h16 h32)
  obtain ⟨p, hpe, hp⟩ := rem_wrap q0 32 (by omega) (by omega)
  have hp32 : p < 32 := by omega
  have hOw := Lib.hid hO
  have hnw : Hid (∀ w', Calls Tryz.prog 9 #[.agg (u8s (id ++ seed)).toArray, .int .i64 1] w' fun e w'' => ∃ b, e = .returned (.tuple #[.pointer (some ⟨b, 0, none⟩), .int .i64 0]) ∧ w'.heap.size ≤ b ∧ Own w' w'' [(b, treeG (id ++ seed) 1 0 0 (List.replicate 2048 0) 0, 74)]) := fun w' => lnew_any w' (id ++ seed) h48 1 (by omega)
  have hrn : Hid (∀ w', Calls Tryz.prog 10 #[.agg (u8s (id ++ seed)).toArray, .int .i64 1] w' fun e w'' => ∃ b, e = .returned (.pointer (some ⟨b, 0, none⟩)) ∧ w'.heap.size ≤ b ∧ Own w' w'' [(b, rtC (id ++ seed) 1 (tblOf (nodeOf id seed 1) 0), 41)]) := fun w' => rtnew_any w' id seed h16 h32 hidb hsdb 1 (by omega)
  have hpu : Hid (∀ w' b, Own w' w' [(b, treeG (id ++ seed) 1 0 0 (List.replicate 2048 0) 0, 74)] → Calls Tryz.prog 12 #[.pointer (some ⟨b, 0, none⟩)] w' fun e w'' => ∃ p c, e = .returned (.slice p 56 c) ∧ Old w'' (.slice p 56 c) (pubL id seed 1) ∧ NewS w'.heap.size (.slice p 56 c) ∧ Own w' w'' [(b, fullT id seed 1, 74)]) := fun w' b h => lpub_any w' b id seed h16 h32 1 (by omega) _ (Or.inl rfl) h
  have hrp : Hid (∀ w' b, RTreeAt w' b id seed 1 → Calls Tryz.prog 13 #[.pointer (some ⟨b, 0, none⟩)] w' fun e w'' => ∃ p c, e = .returned (.slice p 56 c) ∧ Old w'' (.slice p 56 c) (pubL id seed 1) ∧ Own w' w'' []) := fun w' b h => rtpub_any w' b id seed h16 h32 hidb 1 (by omega) h
  have hnd : Hid (∀ w' b r, TreeAt w' b id seed 1 → 0 < r → r < 64 → Calls Tryz.prog 14 #[.pointer (some ⟨b, 0, none⟩), .int .i64 (r : Nat)] w' fun e w'' => e = .returned (.tuple #[.agg (u8s (nodeOf id seed 1 r)).toArray, .int .i64 0]) ∧ Own w' w'' []) := fun w' b r h1 h2 h4 => nodeF_any w' b id seed h16 h32 1 (by omega) h1 r h2 h4
  have hsf : Hid (∀ w' b q, q < 32 → TreeAt w' b id seed 1 → Old w' (.slice pm n cm) msg → (∀ k, blk (Value.slice pm n cm) = some k → k ≠ b) → Calls Tryz.prog 15 #[.pointer (some ⟨b, 0, none⟩), .int .i64 (q : Nat), .slice pm n cm] w' fun e w'' => ∃ g o c, e = .returned (.tuple #[.slice (some ⟨g, o, none⟩) 8684 c, .int .i64 0]) ∧ 8684 ≤ c ∧ Old w'' (.slice (some ⟨g, o, none⟩) 8684 c) (lsigOf id seed 1 q msg) ∧ w'.heap.size ≤ g ∧ Own w' w'' []) := fun w' b q hq h1 h2 h4 =>
    signF_any w' b id seed h16 h32 1 (by omega) h1 q hq _ msg h2 hmb (by omega) h4 rfl
  have hrs : Hid (∀ w' b, RTreeAt w' b id seed 1 → Old w' (.slice pm n cm) msg → Calls Tryz.prog 16 #[.pointer (some ⟨b, 0, none⟩), .int .i64 p, .slice pm n cm] w' fun e w'' => ∃ p0 c, e = .returned (.slice p0 8684 c) ∧ Old w'' (.slice p0 8684 c) (lsigOf id seed 1 p msg) ∧ Own w' w'' []) := fun w' b h1 h2 => rtsign_any w' b id seed h16 h32 hidb hsdb 1 (by omega) h1 p hp32 _ msg h2 hmb (by omega) rfl
  have hsi : Hid (∀ w', Calls Tryz.prog 17 #[.int .i64 1] w' fun e w'' => e = .returned (.int .i64 8684) ∧ Own w' w'' []) := fun w' => size_k w' 1 (by omega)
  have hsmP : Hid (∀ w' v u, Old w' v (pubL id seed 1) → Old w' u (pubL id seed 1) → Calls Tryz.prog 11 #[v, u] w' fun e w'' => e = .returned (.bool true) ∧ Own w' w'' []) := fun w' v u h1 h2 => by
    have h := same_any w' v u _ _ h1.1 h2.1 (isBytes_pubL hidb seed 1) (isBytes_pubL hidb seed 1)
    rwa [decide_eq_true rfl] at h
  have hsmS : Hid (∀ w' v u, Old w' v (lsigOf id seed 1 p msg) → Old w' u (lsigOf id seed 1 p msg) → Calls Tryz.prog 11 #[v, u] w' fun e w'' => e = .returned (.bool true) ∧ Own w' w'' []) := fun w' v u h1 h2 => by
    have h := same_any w' v u _ _ h1.1 h2.1 (isBytes_lsigOf id seed 1 p msg) (isBytes_lsigOf id seed 1 p msg)
    rwa [decide_eq_true rfl] at h
  have hNl : Hid (∀ r, (nodeOf id seed 1 r).length = 32) := length_nodeOf id seed 1
  have hrc : Hid (∀ w' b r, RTreeAt w' b id seed 1 → 0 < r → r < 64 → ∀ j v, (u8s (nodeOf id seed 1 r))[j]? = some v → w'.cell? ⟨b, 49 + 32 * r + j, none⟩ = some v) := fun w' b r h h0 h64 => h.nc h16 h32 h0 h64
  have hsp : Hid (∀ q, q < 32 → (lsigOf id seed 1 q msg).length = 8684) := fun q _ => length_lsigOf id seed 1 q msg
  obtain ⟨N, hN⟩ : ∃ N, N = nodeOf id seed 1 := ⟨_, rfl⟩
  obtain ⟨SG, hSG⟩ : ∃ s, s = fun q => lsigOf id seed 1 q msg := ⟨_, rfl⟩
  have hSe : ∀ q, lsigOf id seed 1 q msg = SG q := fun q => by rw [hSG]
  obtain ⟨PB, hPB⟩ : ∃ s, s = pubL id seed 1 := ⟨_, rfl⟩
  simp only [← hN] at hnd hNl hrc
  simp only [hSe] at hsf hrs hsmS
  rw [← hPB] at hpu hrp hsmP
  clear hsp hSG hSe hPB hN hO hmb hn h16 h32 h48 hidb hsdb hp
  go_enter Tryz.func3, Tryz.ntmps3
  have tok1 : True := trivial
  go_wp2_with (first
    | (clear tok1; refine st_new rfl (rn_box (cs := u8s (id ++ seed)) H rfl rfl rfl) ?_; clear H; intro b5 w1 hb5 H; have tok2 : True := trivial)
    | (clear tok2; refine st_val rfl (rn_loadAll (cs := u8s (id ++ seed)) H rfl rfl (.head _) rfl rfl hsz48.out) ?_; have tok3 : True := trivial)
    | (clear tok3; go_at_call 9; refine (hnw.out _).mono ?_; rintro e w2 ⟨bt, rfl, hbt, h3⟩; have hbt0 := Nat.le_trans H.size hbt; have H2 := H.callNew h3 hbt; clear H h3; have H := H2; clear H2; have tok4 : True := trivial)
    | (clear tok4; refine st_val rfl (rn_loadAll (cs := u8s (id ++ seed)) H rfl rfl (.tail _ (.head _)) rfl rfl hsz48.out) ?_; have tok5 : True := trivial)
    | (clear tok5; go_at_call 10; refine (hrn.out _).mono ?_; rintro e w3 ⟨bx, rfl, hbx, h3⟩; have hbx0 := Nat.le_trans H.size hbx; have hlt := H.lt (.head _); have H2 := (H.callNew h3 hbx).perm (List.Perm.swap _ _ _); have X3 := Lib.hid (show RTreeAt w3 bx id seed 1 from H2.here _ _ _ (.tail _ (.head _))); clear H h3; have H := H2; clear H2; have tok6 : True := trivial)
    | (clear tok6; go_at_call 12; refine (hpu.out _ bt (H.sub1 (.head _))).mono ?_; rintro e w4 ⟨pp, pc, rfl, hP, hPn, h3⟩; have P4 := Lib.hid hP; have T4 := Lib.hid (TreeAt.of h3); have X4 := Lib.hid (show RTreeAt w4 bx id seed 1 from (Own.next (L := [_]) H h3 rfl).here _ _ _ (.tail _ (.head _))); have H2 := Own.next (L := [_]) H h3 rfl; have HW := Lib.hid (H2.end0 (by simp; omega)); have M4 := Lib.hid (hOw.out.mv HW.out (by simp)); have MN := Lib.hid (show ∀ k, blk (Value.slice pm n cm) = some k → k ≠ bt from fun k hk => by have := hOw.out.2 k hk; omega); clear H h3 hP hPn H2 X3; have H := Own.refl w4; have tok7 : True := trivial)
    | (clear tok7; go_at_call 13; refine (hrp.out _ bx X4.out).mono ?_; rintro e w5 ⟨rp, rc, rfl, hP, h3⟩; have R5 := Lib.hid hP; have H2 := H.call0 h3; clear H h3 hP; have H := H2; clear H2; have tok8 : True := trivial)
    | (clear tok8; go_at_call 11; refine (hsmP.out _ _ _ (P4.out.mv H (by simp)) R5.out).mono ?_; rintro e w6 ⟨rfl, h3⟩; have H2 := H.call0 h3; clear H h3; have H := H2; clear H2; have tok9 : True := trivial))
  clear hnw hrn hpu hrp hsmP P4 R5 hbx hbt hlt
  go_loopw [15, 16, 17] (fun v15 _ _ wr => ∃ i : Nat, 1 ≤ i ∧ i ≤ 64 ∧ v15 = .int .i64 ((i : Nat) : Int) ∧ Own w4 wr []) (fun v15 _ _ _ => ((64 : Nat) - intOf v15).toNat)
  case atStart => exact ⟨1, by omega, by omega, rfl, H⟩
  case round =>
    clear H
    obtain ⟨i, hi1, hi, rfl, H⟩ := hrel
    by_cases hin : i < 64
    · have hn1 := Lib.hid (fun w' (h : TreeAt w' bt id seed 1) => hnd.out w' bt i h (by omega) hin)
      have hc1 := Lib.hid (fun w' (h : RTreeAt w' bx id seed 1) => hrc.out w' bx i h (by omega) hin)
      have hl1 := Lib.hid (hNl.out i)
      obtain ⟨X, hX⟩ : ∃ x, x = N i := ⟨_, rfl⟩
      rw [← hX] at hn1 hl1 hc1
      have eX : ∀ w, (Op.equalIn 10000 24 (.agg (u8s X).toArray) (.agg (u8s X).toArray)).run Tryz.prog w = .ok true w := fun w => by rw [eqHash w _ _ hl1.out hl1.out]; simp
      clear hX
      have HR := Lib.hid H
      clear H
      have H := Own.refl wr
      have tok1 : True := trivial
      go_wp2_with (first
        | (clear tok1; go_at_call 14; refine (hn1.out _ (T4.out.mv (HR.out.trans H) (by simp))).mono ?_; rintro e w6 ⟨rfl, h3⟩; have H2 := H.call0 h3; clear H h3; have H := H2; clear H2; have tok2 : True := trivial)
        | (clear tok2; refine st_new rfl (rn_alloc H rfl info_hash) ?_; clear H; intro b16 w7 hb16 H; have tok3 : True := trivial)
        | (clear tok3; refine st_skip rfl (rn_storeAll (vs := u8s X) H rfl rfl rfl (size_hashL hl1.out) .head (by rw [length_ints, length_ints, hl1.out]; rfl) (oneCell_ints _ _)) ?_; clear H; intro w8 H; have tok4 : True := trivial))
      have H8 := Lib.hid H
      have x8 : Hid (∀ w', Own w8 w' [] → ∀ j v, (u8s X)[j]? = some v → w'.cell? ⟨b16, 0 + j, none⟩ = some v) := fun w' h j v hj => by rw [(H8.out.call0 h).cell (.head _), Nat.zero_add]; exact hj
      have r8 : Hid (∀ w', Own w8 w' [] → ∀ j v, (u8s X)[j]? = some v → w'.cell? ⟨bx, 49 + 32 * i + j, none⟩ = some v) := fun w' h => hc1.out w' (X4.out.mv (HR.out.trans ((H8.out.call0 h).end0 (by simpa using hb16))) (by simp))
      clear H
      refine region_grow 12 (by kernel_rfl) (by kernel_rfl) (by kernel_rfl) [.val (.int .i64 0), .val (.bool false), .val (.bool false), .val (.agg (u8s X).toArray), .val (.pointer (some ⟨bx, 0, none⟩)), .val (.int .i64 i), .val (.pointer (some ⟨bx, 0, none⟩)), .val (.pointer (some ⟨bx, 49, none⟩)), .val (.pointer (some ⟨bx, 49 + 32 * i, none⟩)), .val (.agg (u8s X).toArray), .val (.bool false), .val (.bool false)] rfl ?_
      have tok3 : True := trivial
      try go_frame
      repeat (first
        | (clear tok3; refine sp_run (v := .agg (u8s X).toArray) rfl (fun w' hw' _ => rn_cells rfl rfl rfl rfl (size_hashL hl1.out) (x8.out w' hw')) ?_; try go_frame; have tok4 : True := trivial)
        | (clear tok4; refine sp_run (v := .pointer (some ⟨bx, 49 + 32 * i, none⟩)) rfl (fun w' hw' _ => rn_idxArrN (j := i) rfl rfl size_hash rfl rfl rfl (by omega) rfl) ?_; try go_frame; have tok5 : True := trivial)
        | (clear tok5; refine sp_run (v := .agg (u8s X).toArray) rfl (fun w' hw' _ => rn_cells rfl rfl rfl rfl (size_hashL hl1.out) (r8.out w' hw')) ?_; try go_frame; have tok6 : True := trivial)
        | (refine sp_val (fun w' hw' hF => ?_) ⟨_, rfl, Nat.le_of_ble_eq_true rfl⟩ ?_
           · go_big_quiet_step (fail)
             exact rfl
           try go_frame))
      refine sp_nil ?_
      intro w9 hw' hF
      have H := Lib.hid (HR.out.trans ((H8.out.call0 hw').end0 (by simpa using hb16)))
      clear hw' hF x8 r8 H8
      simp only [List.drop_succ_cons, List.drop_zero]
      go_wp2_with fail
      refine ⟨⟨i + 1, by omega, by omega, by go_num, H.out⟩, by simp [intOf]; omega⟩
    · obtain rfl : i = 64 := by omega
      clear hi1 hi hin hrc
      have HR := Lib.hid H
      clear H
      have H := Own.refl wr
      have Tr := Lib.hid (T4.out.mv HR.out (by simp))
      have Xr := Lib.hid (X4.out.mv HR.out (by simp))
      have Mr := Lib.hid (M4.out.mv HR.out (by simp))
      have HWr := Lib.hid (HW.out.trans HR.out)
      clear T4 X4 M4 HW HR hOw
      go_wp2_with fail
      have hsf1 := Lib.hid (fun w' b => hsf.out w' b p hp32)
      by_cases hr : 1 ≤ r0 ∧ r0 < 64
      · obtain ⟨hr1, hr2⟩ := hr
        have hrn : ((r0.toNat : Nat) : Int) = r0 := by omega
        have hnr := Lib.hid (fun w' h => hnd.out w' bt r0.toNat h (by omega) (by omega))
        rw [hrn] at hnr
        have hl1 := Lib.hid (hNl.out r0.toNat)
        obtain ⟨X, hX⟩ : ∃ x, x = N r0.toNat := ⟨_, rfl⟩
        rw [← hX] at hnr hl1
        clear hX hrn hnd hNl
        by_cases hq0 : q0 < 0
        · have hsb : Hid (∀ w', Calls Tryz.prog 15 #[.pointer (some ⟨bt, 0, none⟩), .int .i64 q0, .slice pm n cm] w' fun e w'' => e = .returned (.tuple #[.slice none 0 0, .int .i64 1]) ∧ Own w' w'' []) := fun w' => lsign_bad w' _ _ q0 (Or.inr ⟨⟨bt, rfl⟩, hq0⟩)
          clear hsf
          have tok1 : True := trivial
          go_wp2_with (first
            | (clear tok1; go_at_call 14; refine (hnr.out _ (Tr.out.mv H (by simp))).mono ?_; rintro e w6 ⟨rfl, h3⟩; have H2 := H.call0 h3; clear H h3; have H := H2; clear H2; have tok2 : True := trivial)
            | (clear tok2; refine st_new rfl (rn_alloc H rfl info_hash) ?_; clear H; intro b18 w7 hb18 H; have tok3 : True := trivial)
            | (clear tok3; refine st_skip rfl (rn_storeAll (vs := u8s X) H rfl rfl rfl (size_hashL hl1.out) .head (by rw [length_ints, length_ints, hl1.out]; rfl) (oneCell_ints _ _)) ?_; clear H; intro w8 H; have tok4 : True := trivial)
            | (clear tok4; go_at_call 15; refine (hsf1.out _ bt (Tr.out.mv (H.end0 (by simpa using hb18)) (by simp)) (Mr.out.mv (H.end0 (by simpa using hb18)) (by simp)) MN.out).mono ?_; rintro e w10 ⟨ag, ao, ac, rfl, hac, hA, hag, h3⟩; have A10 := Lib.hid hA; have HE2 := Lib.hid ((H.end0 (by simpa using hb18)).trans h3); clear H h3 hA hag; have H := Own.refl w10; have tok5 : True := trivial)
            | (clear tok5; go_at_call 16; refine (hrs.out _ bx (Xr.out.mv HE2.out (by simp)) (Mr.out.mv HE2.out (by simp))).mono ?_; rintro e w11 ⟨rp, rc, rfl, hP, h3⟩; have R11 := Lib.hid hP; have H2 := H.call0 h3; clear H h3 hP; have H := H2; clear H2; have tok6 : True := trivial)
            | (clear tok6; go_at_call 11; refine (hsmS.out _ _ _ (A10.out.mv H (by simp)) R11.out).mono ?_; rintro e w12 ⟨rfl, h3⟩; have H2 := H.call0 h3; clear H h3; have H := H2; clear H2; have tok7 : True := trivial)
            | (clear tok7; go_at_call 17; refine (hsi.out _).mono ?_; rintro e w13 ⟨rfl, h3⟩; have H2 := H.call0 h3; clear H h3; have H := H2; clear H2; have tok8 : True := trivial)
            | (clear tok8; go_at_call 15; refine (hsb.out _).mono ?_; rintro e w14 ⟨rfl, h3⟩; have H2 := H.call0 h3; clear H h3; have H := H2; clear H2; have tok9 : True := trivial)
            | (clear tok9; go_at_call 8; refine (hto.out _).mono ?_; rintro e w15 ⟨rfl, h3⟩; have H2 := H.call0 h3; clear H h3; have H := H2; clear H2; have tok10 : True := trivial))
          have HE := Lib.hid (HWr.out.trans (HE2.out.trans H))
          clear H
          go_ret
          exact ⟨rfl, HE.out⟩
        by_cases hq1 : 32 ≤ q0
        · have hsb : Hid (∀ w', Calls Tryz.prog 15 #[.pointer (some ⟨bt, 0, none⟩), .int .i64 q0, .slice pm n cm] w' fun e w'' => e = .returned (.tuple #[.slice none 0 0, .int .i64 4]) ∧ Own w' w'' []) := fun w' => lsign_full w' bt _ q0 hq1
          clear hsf
          have tok1 : True := trivial
          go_wp2_with (first
            | (clear tok1; go_at_call 14; refine (hnr.out _ (Tr.out.mv H (by simp))).mono ?_; rintro e w6 ⟨rfl, h3⟩; have H2 := H.call0 h3; clear H h3; have H := H2; clear H2; have tok2 : True := trivial)
            | (clear tok2; refine st_new rfl (rn_alloc H rfl info_hash) ?_; clear H; intro b18 w7 hb18 H; have tok3 : True := trivial)
            | (clear tok3; refine st_skip rfl (rn_storeAll (vs := u8s X) H rfl rfl rfl (size_hashL hl1.out) .head (by rw [length_ints, length_ints, hl1.out]; rfl) (oneCell_ints _ _)) ?_; clear H; intro w8 H; have tok4 : True := trivial)
            | (clear tok4; go_at_call 15; refine (hsf1.out _ bt (Tr.out.mv (H.end0 (by simpa using hb18)) (by simp)) (Mr.out.mv (H.end0 (by simpa using hb18)) (by simp)) MN.out).mono ?_; rintro e w10 ⟨ag, ao, ac, rfl, hac, hA, hag, h3⟩; have A10 := Lib.hid hA; have HE2 := Lib.hid ((H.end0 (by simpa using hb18)).trans h3); clear H h3 hA hag; have H := Own.refl w10; have tok5 : True := trivial)
            | (clear tok5; go_at_call 16; refine (hrs.out _ bx (Xr.out.mv HE2.out (by simp)) (Mr.out.mv HE2.out (by simp))).mono ?_; rintro e w11 ⟨rp, rc, rfl, hP, h3⟩; have R11 := Lib.hid hP; have H2 := H.call0 h3; clear H h3 hP; have H := H2; clear H2; have tok6 : True := trivial)
            | (clear tok6; go_at_call 11; refine (hsmS.out _ _ _ (A10.out.mv H (by simp)) R11.out).mono ?_; rintro e w12 ⟨rfl, h3⟩; have H2 := H.call0 h3; clear H h3; have H := H2; clear H2; have tok7 : True := trivial)
            | (clear tok7; go_at_call 17; refine (hsi.out _).mono ?_; rintro e w13 ⟨rfl, h3⟩; have H2 := H.call0 h3; clear H h3; have H := H2; clear H2; have tok8 : True := trivial)
            | (clear tok8; go_at_call 15; refine (hsb.out _).mono ?_; rintro e w14 ⟨rfl, h3⟩; have H2 := H.call0 h3; clear H h3; have H := H2; clear H2; have tok9 : True := trivial)
            | (clear tok9; go_at_call 8; refine (hto.out _).mono ?_; rintro e w15 ⟨rfl, h3⟩; have H2 := H.call0 h3; clear H h3; have H := H2; clear H2; have tok10 : True := trivial))
          have HE := Lib.hid (HWr.out.trans (HE2.out.trans H))
          clear H
          go_ret
          exact ⟨rfl, HE.out⟩
        · have hqn : ((q0.toNat : Nat) : Int) = q0 := by omega
          have hsf2 := Lib.hid (fun w' b => hsf.out w' b q0.toNat (by omega))
          rw [hqn] at hsf2
          have hq2 : 0 ≤ q0 := by omega
          have hq3 : q0 < 32 := by omega
          have hpq := hpe.symm.trans (rem_small q0 32 hq2 hq3 (by omega))
          rw [hpq] at hsf1 hrs
          clear hq0 hq1 hqn hpe hpq
          clear hsf
          have tok1 : True := trivial
          go_wp2_with (first
            | (clear tok1; go_at_call 14; refine (hnr.out _ (Tr.out.mv H (by simp))).mono ?_; rintro e w6 ⟨rfl, h3⟩; have H2 := H.call0 h3; clear H h3; have H := H2; clear H2; have tok2 : True := trivial)
            | (clear tok2; refine st_new rfl (rn_alloc H rfl info_hash) ?_; clear H; intro b18 w7 hb18 H; have tok3 : True := trivial)
            | (clear tok3; refine st_skip rfl (rn_storeAll (vs := u8s X) H rfl rfl rfl (size_hashL hl1.out) .head (by rw [length_ints, length_ints, hl1.out]; rfl) (oneCell_ints _ _)) ?_; clear H; intro w8 H; have tok4 : True := trivial)
            | (clear tok4; go_at_call 15; refine (hsf1.out _ bt (Tr.out.mv (H.end0 (by simpa using hb18)) (by simp)) (Mr.out.mv (H.end0 (by simpa using hb18)) (by simp)) MN.out).mono ?_; rintro e w10 ⟨ag, ao, ac, rfl, hac, hA, hag, h3⟩; have A10 := Lib.hid hA; have HE2 := Lib.hid ((H.end0 (by simpa using hb18)).trans h3); clear H h3 hA hag; have H := Own.refl w10; have tok5 : True := trivial)
            | (clear tok5; go_at_call 16; refine (hrs.out _ bx (Xr.out.mv HE2.out (by simp)) (Mr.out.mv HE2.out (by simp))).mono ?_; rintro e w11 ⟨rp, rc, rfl, hP, h3⟩; have R11 := Lib.hid hP; have H2 := H.call0 h3; clear H h3 hP; have H := H2; clear H2; have tok6 : True := trivial)
            | (clear tok6; go_at_call 11; refine (hsmS.out _ _ _ (A10.out.mv H (by simp)) R11.out).mono ?_; rintro e w12 ⟨rfl, h3⟩; have H2 := H.call0 h3; clear H h3; have H := H2; clear H2; have tok7 : True := trivial)
            | (clear tok7; go_at_call 17; refine (hsi.out _).mono ?_; rintro e w13 ⟨rfl, h3⟩; have H2 := H.call0 h3; clear H h3; have H := H2; clear H2; have tok8 : True := trivial)
            | (clear tok8; go_at_call 15; refine (hsf2.out _ bt (Tr.out.mv (HE2.out.trans H) (by simp)) (Mr.out.mv (HE2.out.trans H) (by simp)) MN.out).mono ?_; rintro e w14 ⟨bg, bo, bc, rfl, hbc, hB, hbg, h3⟩; have H2 := H.call0 h3; clear H h3 hB hbg hbc; have H := H2; clear H2; have tok9 : True := trivial)
            | (clear tok9; go_at_call 8; refine (hto.out _).mono ?_; rintro e w15 ⟨rfl, h3⟩; have H2 := H.call0 h3; clear H h3; have H := H2; clear H2; have tok10 : True := trivial))
          have HE := Lib.hid (HWr.out.trans (HE2.out.trans H))
          clear H
          go_ret
          exact ⟨rfl, HE.out⟩
      · have hnr : Hid (∀ w', TreeAt w' bt id seed 1 → Calls Tryz.prog 14 #[.pointer (some ⟨bt, 0, none⟩), .int .i64 r0] w' fun e w'' => e = .returned (.tuple #[.agg (u8s (List.replicate 32 0)).toArray, .int .i64 1]) ∧ Own w' w'' []) := fun w' _ => lnode_bad w' _ r0 (Or.inr ⟨⟨bt, rfl⟩, by omega⟩)
        have eZ : ∀ w, (Op.equalIn 10000 24 (.agg (u8s [0, 0, 0, 0, 0, 0, 0, 0, 0, 0, 0, 0, 0, 0, 0, 0, 0, 0, 0, 0, 0, 0, 0, 0, 0, 0, 0, 0, 0, 0, 0, 0]).toArray) (.agg #[.int .u8 0, .int .u8 0, .int .u8 0, .int .u8 0, .int .u8 0, .int .u8 0, .int .u8 0, .int .u8 0, .int .u8 0, .int .u8 0, .int .u8 0, .int .u8 0, .int .u8 0, .int .u8 0, .int .u8 0, .int .u8 0, .int .u8 0, .int .u8 0, .int .u8 0, .int .u8 0, .int .u8 0, .int .u8 0, .int .u8 0, .int .u8 0, .int .u8 0, .int .u8 0, .int .u8 0, .int .u8 0, .int .u8 0, .int .u8 0, .int .u8 0, .int .u8 0])).run Tryz.prog w = .ok true w := fun w => by have h := eqHash w (List.replicate 32 0) (List.replicate 32 0) (by simp) (by simp); rw [decide_eq_true rfl] at h; exact h
        clear hnd hNl
        have hr' : (r0 < 1) ∨ (1 ≤ r0 ∧ 64 ≤ r0) := by omega
        clear hr
        rcases hr' with hr1 | ⟨hr1, hr2⟩
        · have hra : decide (1 ≤ r0) = false := decide_eq_false (by omega)
          clear hr1
          by_cases hq0 : q0 < 0
          · have hsb : Hid (∀ w', Calls Tryz.prog 15 #[.pointer (some ⟨bt, 0, none⟩), .int .i64 q0, .slice pm n cm] w' fun e w'' => e = .returned (.tuple #[.slice none 0 0, .int .i64 1]) ∧ Own w' w'' []) := fun w' => lsign_bad w' _ _ q0 (Or.inr ⟨⟨bt, rfl⟩, hq0⟩)
            clear hsf
            have tok1 : True := trivial
            go_wp2_with (first
              | (clear tok1; go_at_call 14; refine (hnr.out _ (Tr.out.mv H (by simp))).mono ?_; rintro e w6 ⟨rfl, h3⟩; have H2 := H.call0 h3; clear H h3; have H := H2; clear H2; have tok2 : True := trivial)
              | (clear tok2; refine st_new rfl (rn_alloc H rfl info_hash) ?_; clear H; intro b18 w7 hb18 H; have tok3 : True := trivial)
              | (clear tok3; refine st_skip rfl (rn_storeAll (vs := u8s (List.replicate 32 0)) H rfl rfl rfl (by kernel_rfl) .head (by kernel_rfl) (oneCell_ints _ _)) ?_; clear H; intro w8 H; have tok4 : True := trivial)
              | (clear tok4; refine st_valG rfl (rn_loadAll (cs := u8s (List.replicate 32 0)) H rfl rfl (.head _) rfl rfl (by kernel_rfl)) ?_; have tok5 : True := trivial)
              | (clear tok5; go_at_call 15; refine (hsf1.out _ bt (Tr.out.mv (H.end0 (by simpa using hb18)) (by simp)) (Mr.out.mv (H.end0 (by simpa using hb18)) (by simp)) MN.out).mono ?_; rintro e w10 ⟨ag, ao, ac, rfl, hac, hA, hag, h3⟩; have A10 := Lib.hid hA; have HE2 := Lib.hid ((H.end0 (by simpa using hb18)).trans h3); clear H h3 hA hag; have H := Own.refl w10; have tok6 : True := trivial)
              | (clear tok6; go_at_call 16; refine (hrs.out _ bx (Xr.out.mv HE2.out (by simp)) (Mr.out.mv HE2.out (by simp))).mono ?_; rintro e w11 ⟨rp, rc, rfl, hP, h3⟩; have R11 := Lib.hid hP; have H2 := H.call0 h3; clear H h3 hP; have H := H2; clear H2; have tok7 : True := trivial)
              | (clear tok7; go_at_call 11; refine (hsmS.out _ _ _ (A10.out.mv H (by simp)) R11.out).mono ?_; rintro e w12 ⟨rfl, h3⟩; have H2 := H.call0 h3; clear H h3; have H := H2; clear H2; have tok8 : True := trivial)
              | (clear tok8; go_at_call 17; refine (hsi.out _).mono ?_; rintro e w13 ⟨rfl, h3⟩; have H2 := H.call0 h3; clear H h3; have H := H2; clear H2; have tok9 : True := trivial)
              | (clear tok9; go_at_call 15; refine (hsb.out _).mono ?_; rintro e w14 ⟨rfl, h3⟩; have H2 := H.call0 h3; clear H h3; have H := H2; clear H2; have tok10 : True := trivial)
              | (clear tok10; go_at_call 8; refine (hto.out _).mono ?_; rintro e w15 ⟨rfl, h3⟩; have H2 := H.call0 h3; clear H h3; have H := H2; clear H2; have tok11 : True := trivial))
            have HE := Lib.hid (HWr.out.trans (HE2.out.trans H))
            clear H
            go_ret
            exact ⟨rfl, HE.out⟩
          by_cases hq1 : 32 ≤ q0
          · have hsb : Hid (∀ w', Calls Tryz.prog 15 #[.pointer (some ⟨bt, 0, none⟩), .int .i64 q0, .slice pm n cm] w' fun e w'' => e = .returned (.tuple #[.slice none 0 0, .int .i64 4]) ∧ Own w' w'' []) := fun w' => lsign_full w' bt _ q0 hq1
            clear hsf
            have tok1 : True := trivial
            go_wp2_with (first
              | (clear tok1; go_at_call 14; refine (hnr.out _ (Tr.out.mv H (by simp))).mono ?_; rintro e w6 ⟨rfl, h3⟩; have H2 := H.call0 h3; clear H h3; have H := H2; clear H2; have tok2 : True := trivial)
              | (clear tok2; refine st_new rfl (rn_alloc H rfl info_hash) ?_; clear H; intro b18 w7 hb18 H; have tok3 : True := trivial)
              | (clear tok3; refine st_skip rfl (rn_storeAll (vs := u8s (List.replicate 32 0)) H rfl rfl rfl (by kernel_rfl) .head (by kernel_rfl) (oneCell_ints _ _)) ?_; clear H; intro w8 H; have tok4 : True := trivial)
              | (clear tok4; refine st_valG rfl (rn_loadAll (cs := u8s (List.replicate 32 0)) H rfl rfl (.head _) rfl rfl (by kernel_rfl)) ?_; have tok5 : True := trivial)
              | (clear tok5; go_at_call 15; refine (hsf1.out _ bt (Tr.out.mv (H.end0 (by simpa using hb18)) (by simp)) (Mr.out.mv (H.end0 (by simpa using hb18)) (by simp)) MN.out).mono ?_; rintro e w10 ⟨ag, ao, ac, rfl, hac, hA, hag, h3⟩; have A10 := Lib.hid hA; have HE2 := Lib.hid ((H.end0 (by simpa using hb18)).trans h3); clear H h3 hA hag; have H := Own.refl w10; have tok6 : True := trivial)
              | (clear tok6; go_at_call 16; refine (hrs.out _ bx (Xr.out.mv HE2.out (by simp)) (Mr.out.mv HE2.out (by simp))).mono ?_; rintro e w11 ⟨rp, rc, rfl, hP, h3⟩; have R11 := Lib.hid hP; have H2 := H.call0 h3; clear H h3 hP; have H := H2; clear H2; have tok7 : True := trivial)
              | (clear tok7; go_at_call 11; refine (hsmS.out _ _ _ (A10.out.mv H (by simp)) R11.out).mono ?_; rintro e w12 ⟨rfl, h3⟩; have H2 := H.call0 h3; clear H h3; have H := H2; clear H2; have tok8 : True := trivial)
              | (clear tok8; go_at_call 17; refine (hsi.out _).mono ?_; rintro e w13 ⟨rfl, h3⟩; have H2 := H.call0 h3; clear H h3; have H := H2; clear H2; have tok9 : True := trivial)
              | (clear tok9; go_at_call 15; refine (hsb.out _).mono ?_; rintro e w14 ⟨rfl, h3⟩; have H2 := H.call0 h3; clear H h3; have H := H2; clear H2; have tok10 : True := trivial)
              | (clear tok10; go_at_call 8; refine (hto.out _).mono ?_; rintro e w15 ⟨rfl, h3⟩; have H2 := H.call0 h3; clear H h3; have H := H2; clear H2; have tok11 : True := trivial))
            have HE := Lib.hid (HWr.out.trans (HE2.out.trans H))
            clear H
            go_ret
            exact ⟨rfl, HE.out⟩
          · have hqn : ((q0.toNat : Nat) : Int) = q0 := by omega
            have hsf2 := Lib.hid (fun w' b => hsf.out w' b q0.toNat (by omega))
            rw [hqn] at hsf2
            have hq2 : 0 ≤ q0 := by omega
            have hq3 : q0 < 32 := by omega
            have hpq := hpe.symm.trans (rem_small q0 32 hq2 hq3 (by omega))
            rw [hpq] at hsf1 hrs
            clear hq0 hq1 hqn hpe hpq
            clear hsf
            have tok1 : True := trivial
            go_wp2_with (first
              | (clear tok1; go_at_call 14; refine (hnr.out _ (Tr.out.mv H (by simp))).mono ?_; rintro e w6 ⟨rfl, h3⟩; have H2 := H.call0 h3; clear H h3; have H := H2; clear H2; have tok2 : True := trivial)
              | (clear tok2; refine st_new rfl (rn_alloc H rfl info_hash) ?_; clear H; intro b18 w7 hb18 H; have tok3 : True := trivial)
              | (clear tok3; refine st_skip rfl (rn_storeAll (vs := u8s (List.replicate 32 0)) H rfl rfl rfl (by kernel_rfl) .head (by kernel_rfl) (oneCell_ints _ _)) ?_; clear H; intro w8 H; have tok4 : True := trivial)
              | (clear tok4; refine st_valG rfl (rn_loadAll (cs := u8s (List.replicate 32 0)) H rfl rfl (.head _) rfl rfl (by kernel_rfl)) ?_; have tok5 : True := trivial)
              | (clear tok5; go_at_call 15; refine (hsf1.out _ bt (Tr.out.mv (H.end0 (by simpa using hb18)) (by simp)) (Mr.out.mv (H.end0 (by simpa using hb18)) (by simp)) MN.out).mono ?_; rintro e w10 ⟨ag, ao, ac, rfl, hac, hA, hag, h3⟩; have A10 := Lib.hid hA; have HE2 := Lib.hid ((H.end0 (by simpa using hb18)).trans h3); clear H h3 hA hag; have H := Own.refl w10; have tok6 : True := trivial)
              | (clear tok6; go_at_call 16; refine (hrs.out _ bx (Xr.out.mv HE2.out (by simp)) (Mr.out.mv HE2.out (by simp))).mono ?_; rintro e w11 ⟨rp, rc, rfl, hP, h3⟩; have R11 := Lib.hid hP; have H2 := H.call0 h3; clear H h3 hP; have H := H2; clear H2; have tok7 : True := trivial)
              | (clear tok7; go_at_call 11; refine (hsmS.out _ _ _ (A10.out.mv H (by simp)) R11.out).mono ?_; rintro e w12 ⟨rfl, h3⟩; have H2 := H.call0 h3; clear H h3; have H := H2; clear H2; have tok8 : True := trivial)
              | (clear tok8; go_at_call 17; refine (hsi.out _).mono ?_; rintro e w13 ⟨rfl, h3⟩; have H2 := H.call0 h3; clear H h3; have H := H2; clear H2; have tok9 : True := trivial)
              | (clear tok9; go_at_call 15; refine (hsf2.out _ bt (Tr.out.mv (HE2.out.trans H) (by simp)) (Mr.out.mv (HE2.out.trans H) (by simp)) MN.out).mono ?_; rintro e w14 ⟨bg, bo, bc, rfl, hbc, hB, hbg, h3⟩; have H2 := H.call0 h3; clear H h3 hB hbg hbc; have H := H2; clear H2; have tok10 : True := trivial)
              | (clear tok10; go_at_call 8; refine (hto.out _).mono ?_; rintro e w15 ⟨rfl, h3⟩; have H2 := H.call0 h3; clear H h3; have H := H2; clear H2; have tok11 : True := trivial))
            have HE := Lib.hid (HWr.out.trans (HE2.out.trans H))
            clear H
            go_ret
            exact ⟨rfl, HE.out⟩
        · have hrb : decide (r0 < 64) = false := decide_eq_false (by omega)
          have hra : decide (1 ≤ r0) = true := decide_eq_true hr1
          clear hr1 hr2
          by_cases hq0 : q0 < 0
          · have hsb : Hid (∀ w', Calls Tryz.prog 15 #[.pointer (some ⟨bt, 0, none⟩), .int .i64 q0, .slice pm n cm] w' fun e w'' => e = .returned (.tuple #[.slice none 0 0, .int .i64 1]) ∧ Own w' w'' []) := fun w' => lsign_bad w' _ _ q0 (Or.inr ⟨⟨bt, rfl⟩, hq0⟩)
            clear hsf
            have tok1 : True := trivial
            go_wp2_with (first
              | (clear tok1; go_at_call 14; refine (hnr.out _ (Tr.out.mv H (by simp))).mono ?_; rintro e w6 ⟨rfl, h3⟩; have H2 := H.call0 h3; clear H h3; have H := H2; clear H2; have tok2 : True := trivial)
              | (clear tok2; refine st_new rfl (rn_alloc H rfl info_hash) ?_; clear H; intro b18 w7 hb18 H; have tok3 : True := trivial)
              | (clear tok3; refine st_skip rfl (rn_storeAll (vs := u8s (List.replicate 32 0)) H rfl rfl rfl (by kernel_rfl) .head (by kernel_rfl) (oneCell_ints _ _)) ?_; clear H; intro w8 H; have tok4 : True := trivial)
              | (clear tok4; refine st_valG rfl (rn_loadAll (cs := u8s (List.replicate 32 0)) H rfl rfl (.head _) rfl rfl (by kernel_rfl)) ?_; have tok5 : True := trivial)
              | (clear tok5; go_at_call 15; refine (hsf1.out _ bt (Tr.out.mv (H.end0 (by simpa using hb18)) (by simp)) (Mr.out.mv (H.end0 (by simpa using hb18)) (by simp)) MN.out).mono ?_; rintro e w10 ⟨ag, ao, ac, rfl, hac, hA, hag, h3⟩; have A10 := Lib.hid hA; have HE2 := Lib.hid ((H.end0 (by simpa using hb18)).trans h3); clear H h3 hA hag; have H := Own.refl w10; have tok6 : True := trivial)
              | (clear tok6; go_at_call 16; refine (hrs.out _ bx (Xr.out.mv HE2.out (by simp)) (Mr.out.mv HE2.out (by simp))).mono ?_; rintro e w11 ⟨rp, rc, rfl, hP, h3⟩; have R11 := Lib.hid hP; have H2 := H.call0 h3; clear H h3 hP; have H := H2; clear H2; have tok7 : True := trivial)
              | (clear tok7; go_at_call 11; refine (hsmS.out _ _ _ (A10.out.mv H (by simp)) R11.out).mono ?_; rintro e w12 ⟨rfl, h3⟩; have H2 := H.call0 h3; clear H h3; have H := H2; clear H2; have tok8 : True := trivial)
              | (clear tok8; go_at_call 17; refine (hsi.out _).mono ?_; rintro e w13 ⟨rfl, h3⟩; have H2 := H.call0 h3; clear H h3; have H := H2; clear H2; have tok9 : True := trivial)
              | (clear tok9; go_at_call 15; refine (hsb.out _).mono ?_; rintro e w14 ⟨rfl, h3⟩; have H2 := H.call0 h3; clear H h3; have H := H2; clear H2; have tok10 : True := trivial)
              | (clear tok10; go_at_call 8; refine (hto.out _).mono ?_; rintro e w15 ⟨rfl, h3⟩; have H2 := H.call0 h3; clear H h3; have H := H2; clear H2; have tok11 : True := trivial))
            have HE := Lib.hid (HWr.out.trans (HE2.out.trans H))
            clear H
            go_ret
            exact ⟨rfl, HE.out⟩
          by_cases hq1 : 32 ≤ q0
          · have hsb : Hid (∀ w', Calls Tryz.prog 15 #[.pointer (some ⟨bt, 0, none⟩), .int .i64 q0, .slice pm n cm] w' fun e w'' => e = .returned (.tuple #[.slice none 0 0, .int .i64 4]) ∧ Own w' w'' []) := fun w' => lsign_full w' bt _ q0 hq1
            clear hsf
            have tok1 : True := trivial
            go_wp2_with (first
              | (clear tok1; go_at_call 14; refine (hnr.out _ (Tr.out.mv H (by simp))).mono ?_; rintro e w6 ⟨rfl, h3⟩; have H2 := H.call0 h3; clear H h3; have H := H2; clear H2; have tok2 : True := trivial)
              | (clear tok2; refine st_new rfl (rn_alloc H rfl info_hash) ?_; clear H; intro b18 w7 hb18 H; have tok3 : True := trivial)
              | (clear tok3; refine st_skip rfl (rn_storeAll (vs := u8s (List.replicate 32 0)) H rfl rfl rfl (by kernel_rfl) .head (by kernel_rfl) (oneCell_ints _ _)) ?_; clear H; intro w8 H; have tok4 : True := trivial)
              | (clear tok4; refine st_valG rfl (rn_loadAll (cs := u8s (List.replicate 32 0)) H rfl rfl (.head _) rfl rfl (by kernel_rfl)) ?_; have tok5 : True := trivial)
              | (clear tok5; go_at_call 15; refine (hsf1.out _ bt (Tr.out.mv (H.end0 (by simpa using hb18)) (by simp)) (Mr.out.mv (H.end0 (by simpa using hb18)) (by simp)) MN.out).mono ?_; rintro e w10 ⟨ag, ao, ac, rfl, hac, hA, hag, h3⟩; have A10 := Lib.hid hA; have HE2 := Lib.hid ((H.end0 (by simpa using hb18)).trans h3); clear H h3 hA hag; have H := Own.refl w10; have tok6 : True := trivial)
              | (clear tok6; go_at_call 16; refine (hrs.out _ bx (Xr.out.mv HE2.out (by simp)) (Mr.out.mv HE2.out (by simp))).mono ?_; rintro e w11 ⟨rp, rc, rfl, hP, h3⟩; have R11 := Lib.hid hP; have H2 := H.call0 h3; clear H h3 hP; have H := H2; clear H2; have tok7 : True := trivial)
              | (clear tok7; go_at_call 11; refine (hsmS.out _ _ _ (A10.out.mv H (by simp)) R11.out).mono ?_; rintro e w12 ⟨rfl, h3⟩; have H2 := H.call0 h3; clear H h3; have H := H2; clear H2; have tok8 : True := trivial)
              | (clear tok8; go_at_call 17; refine (hsi.out _).mono ?_; rintro e w13 ⟨rfl, h3⟩; have H2 := H.call0 h3; clear H h3; have H := H2; clear H2; have tok9 : True := trivial)
              | (clear tok9; go_at_call 15; refine (hsb.out _).mono ?_; rintro e w14 ⟨rfl, h3⟩; have H2 := H.call0 h3; clear H h3; have H := H2; clear H2; have tok10 : True := trivial)
              | (clear tok10; go_at_call 8; refine (hto.out _).mono ?_; rintro e w15 ⟨rfl, h3⟩; have H2 := H.call0 h3; clear H h3; have H := H2; clear H2; have tok11 : True := trivial))
            have HE := Lib.hid (HWr.out.trans (HE2.out.trans H))
            clear H
            go_ret
            exact ⟨rfl, HE.out⟩
          · have hqn : ((q0.toNat : Nat) : Int) = q0 := by omega
            have hsf2 := Lib.hid (fun w' b => hsf.out w' b q0.toNat (by omega))
            rw [hqn] at hsf2
            have hq2 : 0 ≤ q0 := by omega
            have hq3 : q0 < 32 := by omega
            have hpq := hpe.symm.trans (rem_small q0 32 hq2 hq3 (by omega))
            rw [hpq] at hsf1 hrs
            clear hq0 hq1 hqn hpe hpq
            clear hsf
            have tok1 : True := trivial
            go_wp2_with (first
              | (clear tok1; go_at_call 14; refine (hnr.out _ (Tr.out.mv H (by simp))).mono ?_; rintro e w6 ⟨rfl, h3⟩; have H2 := H.call0 h3; clear H h3; have H := H2; clear H2; have tok2 : True := trivial)
              | (clear tok2; refine st_new rfl (rn_alloc H rfl info_hash) ?_; clear H; intro b18 w7 hb18 H; have tok3 : True := trivial)
              | (clear tok3; refine st_skip rfl (rn_storeAll (vs := u8s (List.replicate 32 0)) H rfl rfl rfl (by kernel_rfl) .head (by kernel_rfl) (oneCell_ints _ _)) ?_; clear H; intro w8 H; have tok4 : True := trivial)
              | (clear tok4; refine st_valG rfl (rn_loadAll (cs := u8s (List.replicate 32 0)) H rfl rfl (.head _) rfl rfl (by kernel_rfl)) ?_; have tok5 : True := trivial)
              | (clear tok5; go_at_call 15; refine (hsf1.out _ bt (Tr.out.mv (H.end0 (by simpa using hb18)) (by simp)) (Mr.out.mv (H.end0 (by simpa using hb18)) (by simp)) MN.out).mono ?_; rintro e w10 ⟨ag, ao, ac, rfl, hac, hA, hag, h3⟩; have A10 := Lib.hid hA; have HE2 := Lib.hid ((H.end0 (by simpa using hb18)).trans h3); clear H h3 hA hag; have H := Own.refl w10; have tok6 : True := trivial)
              | (clear tok6; go_at_call 16; refine (hrs.out _ bx (Xr.out.mv HE2.out (by simp)) (Mr.out.mv HE2.out (by simp))).mono ?_; rintro e w11 ⟨rp, rc, rfl, hP, h3⟩; have R11 := Lib.hid hP; have H2 := H.call0 h3; clear H h3 hP; have H := H2; clear H2; have tok7 : True := trivial)
              | (clear tok7; go_at_call 11; refine (hsmS.out _ _ _ (A10.out.mv H (by simp)) R11.out).mono ?_; rintro e w12 ⟨rfl, h3⟩; have H2 := H.call0 h3; clear H h3; have H := H2; clear H2; have tok8 : True := trivial)
              | (clear tok8; go_at_call 17; refine (hsi.out _).mono ?_; rintro e w13 ⟨rfl, h3⟩; have H2 := H.call0 h3; clear H h3; have H := H2; clear H2; have tok9 : True := trivial)
              | (clear tok9; go_at_call 15; refine (hsf2.out _ bt (Tr.out.mv (HE2.out.trans H) (by simp)) (Mr.out.mv (HE2.out.trans H) (by simp)) MN.out).mono ?_; rintro e w14 ⟨bg, bo, bc, rfl, hbc, hB, hbg, h3⟩; have H2 := H.call0 h3; clear H h3 hB hbg hbc; have H := H2; clear H2; have tok10 : True := trivial)
              | (clear tok10; go_at_call 8; refine (hto.out _).mono ?_; rintro e w15 ⟨rfl, h3⟩; have H2 := H.call0 h3; clear H h3; have H := H2; clear H2; have tok11 : True := trivial))
            have HE := Lib.hid (HWr.out.trans (HE2.out.trans H))
            clear H
            go_ret
            exact ⟨rfl, HE.out⟩

set_option maxRecDepth 100000 in
set_option maxHeartbeats 16000000 in
theorem lmsAsks_2 (w : World) (id seed : List Int) (h16 : id.length = 16) (h32 : seed.length = 32) (hidb : IsBytes id) (hsdb : IsBytes seed) (w0 q0 r0 : Int) (pm : Option Addr) (n cm : Nat) (msg : List Int) (hO : Old w (.slice pm n cm) msg) (hmb : IsBytes msg) (hn : n = msg.length) (hn5 : n ≤ 200) (hwe : wrap64 ((IntKind.u64.wrap w0).tmod 2) = 1) :
    Calls Tryz.prog 3 #[.agg (u8s (id ++ seed)).toArray, .int .i64 w0, .int .i64 q0, .slice pm n cm, .int .i64 r0] w fun e w' => e = .returned (.bool true) ∧ Own w w' [] := by
  have H := Own.refl w
  have hto := Lib.hid ltold_any
  have h48 : (id ++ seed).length = 48 := by rw [List.length_append, h16, h32]
  have hsz48 := Lib.hid (size_secretL h16 h32)
  obtain ⟨p, hpe, hp⟩ := rem_wrap q0 32 (by omega) (by omega)
  have hp32 : p < 32 := by omega
  have hOw := Lib.hid hO
  have hnw : Hid (∀ w', Calls Tryz.prog 9 #[.agg (u8s (id ++ seed)).toArray, .int .i64 2] w' fun e w'' => ∃ b, e = .returned (.tuple #[.pointer (some ⟨b, 0, none⟩), .int .i64 0]) ∧ w'.heap.size ≤ b ∧ Own w' w'' [(b, treeG (id ++ seed) 2 0 0 (List.replicate 2048 0) 0, 74)]) := fun w' => lnew_any w' (id ++ seed) h48 2 (by omega)
  have hrn : Hid (∀ w', Calls Tryz.prog 10 #[.agg (u8s (id ++ seed)).toArray, .int .i64 2] w' fun e w'' => ∃ b, e = .returned (.pointer (some ⟨b, 0, none⟩)) ∧ w'.heap.size ≤ b ∧ Own w' w'' [(b, rtC (id ++ seed) 2 (tblOf (nodeOf id seed 2) 0), 41)]) := fun w' => rtnew_any w' id seed h16 h32 hidb hsdb 2 (by omega)
  have hpu : Hid (∀ w' b, Own w' w' [(b, treeG (id ++ seed) 2 0 0 (List.replicate 2048 0) 0, 74)] → Calls Tryz.prog 12 #[.pointer (some ⟨b, 0, none⟩)] w' fun e w'' => ∃ p c, e = .returned (.slice p 56 c) ∧ Old w'' (.slice p 56 c) (pubL id seed 2) ∧ NewS w'.heap.size (.slice p 56 c) ∧ Own w' w'' [(b, fullT id seed 2, 74)]) := fun w' b h => lpub_any w' b id seed h16 h32 2 (by omega) _ (Or.inl rfl) h
  have hrp : Hid (∀ w' b, RTreeAt w' b id seed 2 → Calls Tryz.prog 13 #[.pointer (some ⟨b, 0, none⟩)] w' fun e w'' => ∃ p c, e = .returned (.slice p 56 c) ∧ Old w'' (.slice p 56 c) (pubL id seed 2) ∧ Own w' w'' []) := fun w' b h => rtpub_any w' b id seed h16 h32 hidb 2 (by omega) h
  have hnd : Hid (∀ w' b r, TreeAt w' b id seed 2 → 0 < r → r < 64 → Calls Tryz.prog 14 #[.pointer (some ⟨b, 0, none⟩), .int .i64 (r : Nat)] w' fun e w'' => e = .returned (.tuple #[.agg (u8s (nodeOf id seed 2 r)).toArray, .int .i64 0]) ∧ Own w' w'' []) := fun w' b r h1 h2 h4 => nodeF_any w' b id seed h16 h32 2 (by omega) h1 r h2 h4
  have hsf : Hid (∀ w' b q, q < 32 → TreeAt w' b id seed 2 → Old w' (.slice pm n cm) msg → (∀ k, blk (Value.slice pm n cm) = some k → k ≠ b) → Calls Tryz.prog 15 #[.pointer (some ⟨b, 0, none⟩), .int .i64 (q : Nat), .slice pm n cm] w' fun e w'' => ∃ g o c, e = .returned (.tuple #[.slice (some ⟨g, o, none⟩) 4460 c, .int .i64 0]) ∧ 4460 ≤ c ∧ Old w'' (.slice (some ⟨g, o, none⟩) 4460 c) (lsigOf id seed 2 q msg) ∧ w'.heap.size ≤ g ∧ Own w' w'' []) := fun w' b q hq h1 h2 h4 =>
    signF_any w' b id seed h16 h32 2 (by omega) h1 q hq _ msg h2 hmb (by omega) h4 rfl
  have hrs : Hid (∀ w' b, RTreeAt w' b id seed 2 → Old w' (.slice pm n cm) msg → Calls Tryz.prog 16 #[.pointer (some ⟨b, 0, none⟩), .int .i64 p, .slice pm n cm] w' fun e w'' => ∃ p0 c, e = .returned (.slice p0 4460 c) ∧ Old w'' (.slice p0 4460 c) (lsigOf id seed 2 p msg) ∧ Own w' w'' []) := fun w' b h1 h2 => rtsign_any w' b id seed h16 h32 hidb hsdb 2 (by omega) h1 p hp32 _ msg h2 hmb (by omega) rfl
  have hsi : Hid (∀ w', Calls Tryz.prog 17 #[.int .i64 2] w' fun e w'' => e = .returned (.int .i64 4460) ∧ Own w' w'' []) := fun w' => size_k w' 2 (by omega)
  have hsmP : Hid (∀ w' v u, Old w' v (pubL id seed 2) → Old w' u (pubL id seed 2) → Calls Tryz.prog 11 #[v, u] w' fun e w'' => e = .returned (.bool true) ∧ Own w' w'' []) := fun w' v u h1 h2 => by
    have h := same_any w' v u _ _ h1.1 h2.1 (isBytes_pubL hidb seed 2) (isBytes_pubL hidb seed 2)
    rwa [decide_eq_true rfl] at h
  have hsmS : Hid (∀ w' v u, Old w' v (lsigOf id seed 2 p msg) → Old w' u (lsigOf id seed 2 p msg) → Calls Tryz.prog 11 #[v, u] w' fun e w'' => e = .returned (.bool true) ∧ Own w' w'' []) := fun w' v u h1 h2 => by
    have h := same_any w' v u _ _ h1.1 h2.1 (isBytes_lsigOf id seed 2 p msg) (isBytes_lsigOf id seed 2 p msg)
    rwa [decide_eq_true rfl] at h
  have hNl : Hid (∀ r, (nodeOf id seed 2 r).length = 32) := length_nodeOf id seed 2
  have hrc : Hid (∀ w' b r, RTreeAt w' b id seed 2 → 0 < r → r < 64 → ∀ j v, (u8s (nodeOf id seed 2 r))[j]? = some v → w'.cell? ⟨b, 49 + 32 * r + j, none⟩ = some v) := fun w' b r h h0 h64 => h.nc h16 h32 h0 h64
  have hsp : Hid (∀ q, q < 32 → (lsigOf id seed 2 q msg).length = 4460) := fun q _ => length_lsigOf id seed 2 q msg
  obtain ⟨N, hN⟩ : ∃ N, N = nodeOf id seed 2 := ⟨_, rfl⟩
  obtain ⟨SG, hSG⟩ : ∃ s, s = fun q => lsigOf id seed 2 q msg := ⟨_, rfl⟩
  have hSe : ∀ q, lsigOf id seed 2 q msg = SG q := fun q => by rw [hSG]
  obtain ⟨PB, hPB⟩ : ∃ s, s = pubL id seed 2 := ⟨_, rfl⟩
  simp only [← hN] at hnd hNl hrc
  simp only [hSe] at hsf hrs hsmS
  rw [← hPB] at hpu hrp hsmP
  clear hsp hSG hSe hPB hN hO hmb hn h16 h32 h48 hidb hsdb hp
  go_enter Tryz.func3, Tryz.ntmps3
  have tok1 : True := trivial
  go_wp2_with (first
    | (clear tok1; refine st_new rfl (rn_box (cs := u8s (id ++ seed)) H rfl rfl rfl) ?_; clear H; intro b5 w1 hb5 H; have tok2 : True := trivial)
    | (clear tok2; refine st_val rfl (rn_loadAll (cs := u8s (id ++ seed)) H rfl rfl (.head _) rfl rfl hsz48.out) ?_; have tok3 : True := trivial)
    | (clear tok3; go_at_call 9; refine (hnw.out _).mono ?_; rintro e w2 ⟨bt, rfl, hbt, h3⟩; have hbt0 := Nat.le_trans H.size hbt; have H2 := H.callNew h3 hbt; clear H h3; have H := H2; clear H2; have tok4 : True := trivial)
    | (clear tok4; refine st_val rfl (rn_loadAll (cs := u8s (id ++ seed)) H rfl rfl (.tail _ (.head _)) rfl rfl hsz48.out) ?_; have tok5 : True := trivial)
    | (clear tok5; go_at_call 10; refine (hrn.out _).mono ?_; rintro e w3 ⟨bx, rfl, hbx, h3⟩; have hbx0 := Nat.le_trans H.size hbx; have hlt := H.lt (.head _); have H2 := (H.callNew h3 hbx).perm (List.Perm.swap _ _ _); have X3 := Lib.hid (show RTreeAt w3 bx id seed 2 from H2.here _ _ _ (.tail _ (.head _))); clear H h3; have H := H2; clear H2; have tok6 : True := trivial)
    | (clear tok6; go_at_call 12; refine (hpu.out _ bt (H.sub1 (.head _))).mono ?_; rintro e w4 ⟨pp, pc, rfl, hP, hPn, h3⟩; have P4 := Lib.hid hP; have T4 := Lib.hid (TreeAt.of h3); have X4 := Lib.hid (show RTreeAt w4 bx id seed 2 from (Own.next (L := [_]) H h3 rfl).here _ _ _ (.tail _ (.head _))); have H2 := Own.next (L := [_]) H h3 rfl; have HW := Lib.hid (H2.end0 (by simp; omega)); have M4 := Lib.hid (hOw.out.mv HW.out (by simp)); have MN := Lib.hid (show ∀ k, blk (Value.slice pm n cm) = some k → k ≠ bt from fun k hk => by have := hOw.out.2 k hk; omega); clear H h3 hP hPn H2 X3; have H := Own.refl w4; have tok7 : True := trivial)
    | (clear tok7; go_at_call 13; refine (hrp.out _ bx X4.out).mono ?_; rintro e w5 ⟨rp, rc, rfl, hP, h3⟩; have R5 := Lib.hid hP; have H2 := H.call0 h3; clear H h3 hP; have H := H2; clear H2; have tok8 : True := trivial)
    | (clear tok8; go_at_call 11; refine (hsmP.out _ _ _ (P4.out.mv H (by simp)) R5.out).mono ?_; rintro e w6 ⟨rfl, h3⟩; have H2 := H.call0 h3; clear H h3; have H := H2; clear H2; have tok9 : True := trivial))
  clear hnw hrn hpu hrp hsmP P4 R5 hbx hbt hlt
  go_loopw [15, 16, 17] (fun v15 _ _ wr => ∃ i : Nat, 1 ≤ i ∧ i ≤ 64 ∧ v15 = .int .i64 ((i : Nat) : Int) ∧ Own w4 wr []) (fun v15 _ _ _ => ((64 : Nat) - intOf v15).toNat)
  case atStart => exact ⟨1, by omega, by omega, rfl, H⟩
  case round =>
    clear H
    obtain ⟨i, hi1, hi, rfl, H⟩ := hrel
    by_cases hin : i < 64
    · have hn1 := Lib.hid (fun w' (h : TreeAt w' bt id seed 2) => hnd.out w' bt i h (by omega) hin)
      have hc1 := Lib.hid (fun w' (h : RTreeAt w' bx id seed 2) => hrc.out w' bx i h (by omega) hin)
      have hl1 := Lib.hid (hNl.out i)
      obtain ⟨X, hX⟩ : ∃ x, x = N i := ⟨_, rfl⟩
      rw [← hX] at hn1 hl1 hc1
      have eX : ∀ w, (Op.equalIn 10000 24 (.agg (u8s X).toArray) (.agg (u8s X).toArray)).run Tryz.prog w = .ok true w := fun w => by rw [eqHash w _ _ hl1.out hl1.out]; simp
      clear hX
      have HR := Lib.hid H
      clear H
      have H := Own.refl wr
      have tok1 : True := trivial
      go_wp2_with (first
        | (clear tok1; go_at_call 14; refine (hn1.out _ (T4.out.mv (HR.out.trans H) (by simp))).mono ?_; rintro e w6 ⟨rfl, h3⟩; have H2 := H.call0 h3; clear H h3; have H := H2; clear H2; have tok2 : True := trivial)
        | (clear tok2; refine st_new rfl (rn_alloc H rfl info_hash) ?_; clear H; intro b16 w7 hb16 H; have tok3 : True := trivial)
        | (clear tok3; refine st_skip rfl (rn_storeAll (vs := u8s X) H rfl rfl rfl (size_hashL hl1.out) .head (by rw [length_ints, length_ints, hl1.out]; rfl) (oneCell_ints _ _)) ?_; clear H; intro w8 H; have tok4 : True := trivial))
      have H8 := Lib.hid H
      have x8 : Hid (∀ w', Own w8 w' [] → ∀ j v, (u8s X)[j]? = some v → w'.cell? ⟨b16, 0 + j, none⟩ = some v) := fun w' h j v hj => by rw [(H8.out.call0 h).cell (.head _), Nat.zero_add]; exact hj
      have r8 : Hid (∀ w', Own w8 w' [] → ∀ j v, (u8s X)[j]? = some v → w'.cell? ⟨bx, 49 + 32 * i + j, none⟩ = some v) := fun w' h => hc1.out w' (X4.out.mv (HR.out.trans ((H8.out.call0 h).end0 (by simpa using hb16))) (by simp))
      clear H
      refine region_grow 12 (by kernel_rfl) (by kernel_rfl) (by kernel_rfl) [.val (.int .i64 0), .val (.bool false), .val (.bool false), .val (.agg (u8s X).toArray), .val (.pointer (some ⟨bx, 0, none⟩)), .val (.int .i64 i), .val (.pointer (some ⟨bx, 0, none⟩)), .val (.pointer (some ⟨bx, 49, none⟩)), .val (.pointer (some ⟨bx, 49 + 32 * i, none⟩)), .val (.agg (u8s X).toArray), .val (.bool false), .val (.bool false)] rfl ?_
      have tok3 : True := trivial
      try go_frame
      repeat (first
        | (clear tok3; refine sp_run (v := .agg (u8s X).toArray) rfl (fun w' hw' _ => rn_cells rfl rfl rfl rfl (size_hashL hl1.out) (x8.out w' hw')) ?_; try go_frame; have tok4 : True := trivial)
        | (clear tok4; refine sp_run (v := .pointer (some ⟨bx, 49 + 32 * i, none⟩)) rfl (fun w' hw' _ => rn_idxArrN (j := i) rfl rfl size_hash rfl rfl rfl (by omega) rfl) ?_; try go_frame; have tok5 : True := trivial)
        | (clear tok5; refine sp_run (v := .agg (u8s X).toArray) rfl (fun w' hw' _ => rn_cells rfl rfl rfl rfl (size_hashL hl1.out) (r8.out w' hw')) ?_; try go_frame; have tok6 : True := trivial)
        | (refine sp_val (fun w' hw' hF => ?_) ⟨_, rfl, Nat.le_of_ble_eq_true rfl⟩ ?_
           · go_big_quiet_step (fail)
             exact rfl
           try go_frame))
      refine sp_nil ?_
      intro w9 hw' hF
      have H := Lib.hid (HR.out.trans ((H8.out.call0 hw').end0 (by simpa using hb16)))
      clear hw' hF x8 r8 H8
      simp only [List.drop_succ_cons, List.drop_zero]
      go_wp2_with fail
      refine ⟨⟨i + 1, by omega, by omega, by go_num, H.out⟩, by simp [intOf]; omega⟩
    · obtain rfl : i = 64 := by omega
      clear hi1 hi hin hrc
      have HR := Lib.hid H
      clear H
      have H := Own.refl wr
      have Tr := Lib.hid (T4.out.mv HR.out (by simp))
      have Xr := Lib.hid (X4.out.mv HR.out (by simp))
      have Mr := Lib.hid (M4.out.mv HR.out (by simp))
      have HWr := Lib.hid (HW.out.trans HR.out)
      clear T4 X4 M4 HW HR hOw
      go_wp2_with fail
      have hsf1 := Lib.hid (fun w' b => hsf.out w' b p hp32)
      by_cases hr : 1 ≤ r0 ∧ r0 < 64
      · obtain ⟨hr1, hr2⟩ := hr
        have hrn : ((r0.toNat : Nat) : Int) = r0 := by omega
        have hnr := Lib.hid (fun w' h => hnd.out w' bt r0.toNat h (by omega) (by omega))
        rw [hrn] at hnr
        have hl1 := Lib.hid (hNl.out r0.toNat)
        obtain ⟨X, hX⟩ : ∃ x, x = N r0.toNat := ⟨_, rfl⟩
        rw [← hX] at hnr hl1
        clear hX hrn hnd hNl
        by_cases hq0 : q0 < 0
        · have hsb : Hid (∀ w', Calls Tryz.prog 15 #[.pointer (some ⟨bt, 0, none⟩), .int .i64 q0, .slice pm n cm] w' fun e w'' => e = .returned (.tuple #[.slice none 0 0, .int .i64 1]) ∧ Own w' w'' []) := fun w' => lsign_bad w' _ _ q0 (Or.inr ⟨⟨bt, rfl⟩, hq0⟩)
          clear hsf
          have tok1 : True := trivial
          go_wp2_with (first
            | (clear tok1; go_at_call 14; refine (hnr.out _ (Tr.out.mv H (by simp))).mono ?_; rintro e w6 ⟨rfl, h3⟩; have H2 := H.call0 h3; clear H h3; have H := H2; clear H2; have tok2 : True := trivial)
            | (clear tok2; refine st_new rfl (rn_alloc H rfl info_hash) ?_; clear H; intro b18 w7 hb18 H; have tok3 : True := trivial)
            | (clear tok3; refine st_skip rfl (rn_storeAll (vs := u8s X) H rfl rfl rfl (size_hashL hl1.out) .head (by rw [length_ints, length_ints, hl1.out]; rfl) (oneCell_ints _ _)) ?_; clear H; intro w8 H; have tok4 : True := trivial)
            | (clear tok4; go_at_call 15; refine (hsf1.out _ bt (Tr.out.mv (H.end0 (by simpa using hb18)) (by simp)) (Mr.out.mv (H.end0 (by simpa using hb18)) (by simp)) MN.out).mono ?_; rintro e w10 ⟨ag, ao, ac, rfl, hac, hA, hag, h3⟩; have A10 := Lib.hid hA; have HE2 := Lib.hid ((H.end0 (by simpa using hb18)).trans h3); clear H h3 hA hag; have H := Own.refl w10; have tok5 : True := trivial)
            | (clear tok5; go_at_call 16; refine (hrs.out _ bx (Xr.out.mv HE2.out (by simp)) (Mr.out.mv HE2.out (by simp))).mono ?_; rintro e w11 ⟨rp, rc, rfl, hP, h3⟩; have R11 := Lib.hid hP; have H2 := H.call0 h3; clear H h3 hP; have H := H2; clear H2; have tok6 : True := trivial)
            | (clear tok6; go_at_call 11; refine (hsmS.out _ _ _ (A10.out.mv H (by simp)) R11.out).mono ?_; rintro e w12 ⟨rfl, h3⟩; have H2 := H.call0 h3; clear H h3; have H := H2; clear H2; have tok7 : True := trivial)
            | (clear tok7; go_at_call 17; refine (hsi.out _).mono ?_; rintro e w13 ⟨rfl, h3⟩; have H2 := H.call0 h3; clear H h3; have H := H2; clear H2; have tok8 : True := trivial)
            | (clear tok8; go_at_call 15; refine (hsb.out _).mono ?_; rintro e w14 ⟨rfl, h3⟩; have H2 := H.call0 h3; clear H h3; have H := H2; clear H2; have tok9 : True := trivial)
            | (clear tok9; go_at_call 8; refine (hto.out _).mono ?_; rintro e w15 ⟨rfl, h3⟩; have H2 := H.call0 h3; clear H h3; have H := H2; clear H2; have tok10 : True := trivial))
          have HE := Lib.hid (HWr.out.trans (HE2.out.trans H))
          clear H
          go_ret
          exact ⟨rfl, HE.out⟩
        by_cases hq1 : 32 ≤ q0
        · have hsb : Hid (∀ w', Calls Tryz.prog 15 #[.pointer (some ⟨bt, 0, none⟩), .int .i64 q0, .slice pm n cm] w' fun e w'' => e = .returned (.tuple #[.slice none 0 0, .int .i64 4]) ∧ Own w' w'' []) := fun w' => lsign_full w' bt _ q0 hq1
          clear hsf
          have tok1 : True := trivial
          go_wp2_with (first
            | (clear tok1; go_at_call 14; refine (hnr.out _ (Tr.out.mv H (by simp))).mono ?_; rintro e w6 ⟨rfl, h3⟩; have H2 := H.call0 h3; clear H h3; have H := H2; clear H2; have tok2 : True := trivial)
            | (clear tok2; refine st_new rfl (rn_alloc H rfl info_hash) ?_; clear H; intro b18 w7 hb18 H; have tok3 : True := trivial)
            | (clear tok3; refine st_skip rfl (rn_storeAll (vs := u8s X) H rfl rfl rfl (size_hashL hl1.out) .head (by rw [length_ints, length_ints, hl1.out]; rfl) (oneCell_ints _ _)) ?_; clear H; intro w8 H; have tok4 : True := trivial)
            | (clear tok4; go_at_call 15; refine (hsf1.out _ bt (Tr.out.mv (H.end0 (by simpa using hb18)) (by simp)) (Mr.out.mv (H.end0 (by simpa using hb18)) (by simp)) MN.out).mono ?_; rintro e w10 ⟨ag, ao, ac, rfl, hac, hA, hag, h3⟩; have A10 := Lib.hid hA; have HE2 := Lib.hid ((H.end0 (by simpa using hb18)).trans h3); clear H h3 hA hag; have H := Own.refl w10; have tok5 : True := trivial)
            | (clear tok5; go_at_call 16; refine (hrs.out _ bx (Xr.out.mv HE2.out (by simp)) (Mr.out.mv HE2.out (by simp))).mono ?_; rintro e w11 ⟨rp, rc, rfl, hP, h3⟩; have R11 := Lib.hid hP; have H2 := H.call0 h3; clear H h3 hP; have H := H2; clear H2; have tok6 : True := trivial)
            | (clear tok6; go_at_call 11; refine (hsmS.out _ _ _ (A10.out.mv H (by simp)) R11.out).mono ?_; rintro e w12 ⟨rfl, h3⟩; have H2 := H.call0 h3; clear H h3; have H := H2; clear H2; have tok7 : True := trivial)
            | (clear tok7; go_at_call 17; refine (hsi.out _).mono ?_; rintro e w13 ⟨rfl, h3⟩; have H2 := H.call0 h3; clear H h3; have H := H2; clear H2; have tok8 : True := trivial)
            | (clear tok8; go_at_call 15; refine (hsb.out _).mono ?_; rintro e w14 ⟨rfl, h3⟩; have H2 := H.call0 h3; clear H h3; have H := H2; clear H2; have tok9 : True := trivial)
            | (clear tok9; go_at_call 8; refine (hto.out _).mono ?_; rintro e w15 ⟨rfl, h3⟩; have H2 := H.call0 h3; clear H h3; have H := H2; clear H2; have tok10 : True := trivial))
          have HE := Lib.hid (HWr.out.trans (HE2.out.trans H))
          clear H
          go_ret
          exact ⟨rfl, HE.out⟩
        · have hqn : ((q0.toNat : Nat) : Int) = q0 := by omega
          have hsf2 := Lib.hid (fun w' b => hsf.out w' b q0.toNat (by omega))
          rw [hqn] at hsf2
          have hq2 : 0 ≤ q0 := by omega
          have hq3 : q0 < 32 := by omega
          have hpq := hpe.symm.trans (rem_small q0 32 hq2 hq3 (by omega))
          rw [hpq] at hsf1 hrs
          clear hq0 hq1 hqn hpe hpq
          clear hsf
          have tok1 : True := trivial
          go_wp2_with (first
            | (clear tok1; go_at_call 14; refine (hnr.out _ (Tr.out.mv H (by simp))).mono ?_; rintro e w6 ⟨rfl, h3⟩; have H2 := H.call0 h3; clear H h3; have H := H2; clear H2; have tok2 : True := trivial)
            | (clear tok2; refine st_new rfl (rn_alloc H rfl info_hash) ?_; clear H; intro b18 w7 hb18 H; have tok3 : True := trivial)
            | (clear tok3; refine st_skip rfl (rn_storeAll (vs := u8s X) H rfl rfl rfl (size_hashL hl1.out) .head (by rw [length_ints, length_ints, hl1.out]; rfl) (oneCell_ints _ _)) ?_; clear H; intro w8 H; have tok4 : True := trivial)
            | (clear tok4; go_at_call 15; refine (hsf1.out _ bt (Tr.out.mv (H.end0 (by simpa using hb18)) (by simp)) (Mr.out.mv (H.end0 (by simpa using hb18)) (by simp)) MN.out).mono ?_; rintro e w10 ⟨ag, ao, ac, rfl, hac, hA, hag, h3⟩; have A10 := Lib.hid hA; have HE2 := Lib.hid ((H.end0 (by simpa using hb18)).trans h3); clear H h3 hA hag; have H := Own.refl w10; have tok5 : True := trivial)
            | (clear tok5; go_at_call 16; refine (hrs.out _ bx (Xr.out.mv HE2.out (by simp)) (Mr.out.mv HE2.out (by simp))).mono ?_; rintro e w11 ⟨rp, rc, rfl, hP, h3⟩; have R11 := Lib.hid hP; have H2 := H.call0 h3; clear H h3 hP; have H := H2; clear H2; have tok6 : True := trivial)
            | (clear tok6; go_at_call 11; refine (hsmS.out _ _ _ (A10.out.mv H (by simp)) R11.out).mono ?_; rintro e w12 ⟨rfl, h3⟩; have H2 := H.call0 h3; clear H h3; have H := H2; clear H2; have tok7 : True := trivial)
            | (clear tok7; go_at_call 17; refine (hsi.out _).mono ?_; rintro e w13 ⟨rfl, h3⟩; have H2 := H.call0 h3; clear H h3; have H := H2; clear H2; have tok8 : True := trivial)
            | (clear tok8; go_at_call 15; refine (hsf2.out _ bt (Tr.out.mv (HE2.out.trans H) (by simp)) (Mr.out.mv (HE2.out.trans H) (by simp)) MN.out).mono ?_; rintro e w14 ⟨bg, bo, bc, rfl, hbc, hB, hbg, h3⟩; have H2 := H.call0 h3; clear H h3 hB hbg hbc; have H := H2; clear H2; have tok9 : True := trivial)
            | (clear tok9; go_at_call 8; refine (hto.out _).mono ?_; rintro e w15 ⟨rfl, h3⟩; have H2 := H.call0 h3; clear H h3; have H := H2; clear H2; have tok10 : True := trivial))
          have HE := Lib.hid (HWr.out.trans (HE2.out.trans H))
          clear H
          go_ret
          exact ⟨rfl, HE.out⟩
      · have hnr : Hid (∀ w', TreeAt w' bt id seed 2 → Calls Tryz.prog 14 #[.pointer (some ⟨bt, 0, none⟩), .int .i64 r0] w' fun e w'' => e = .returned (.tuple #[.agg (u8s (List.replicate 32 0)).toArray, .int .i64 1]) ∧ Own w' w'' []) := fun w' _ => lnode_bad w' _ r0 (Or.inr ⟨⟨bt, rfl⟩, by omega⟩)
        have eZ : ∀ w, (Op.equalIn 10000 24 (.agg (u8s [0, 0, 0, 0, 0, 0, 0, 0, 0, 0, 0, 0, 0, 0, 0, 0, 0, 0, 0, 0, 0, 0, 0, 0, 0, 0, 0, 0, 0, 0, 0, 0]).toArray) (.agg #[.int .u8 0, .int .u8 0, .int .u8 0, .int .u8 0, .int .u8 0, .int .u8 0, .int .u8 0, .int .u8 0, .int .u8 0, .int .u8 0, .int .u8 0, .int .u8 0, .int .u8 0, .int .u8 0, .int .u8 0, .int .u8 0, .int .u8 0, .int .u8 0, .int .u8 0, .int .u8 0, .int .u8 0, .int .u8 0, .int .u8 0, .int .u8 0, .int .u8 0, .int .u8 0, .int .u8 0, .int .u8 0, .int .u8 0, .int .u8 0, .int .u8 0, .int .u8 0])).run Tryz.prog w = .ok true w := fun w => by have h := eqHash w (List.replicate 32 0) (List.replicate 32 0) (by simp) (by simp); rw [decide_eq_true rfl] at h; exact h
        clear hnd hNl
        have hr' : (r0 < 1) ∨ (1 ≤ r0 ∧ 64 ≤ r0) := by omega
        clear hr
        rcases hr' with hr1 | ⟨hr1, hr2⟩
        · have hra : decide (1 ≤ r0) = false := decide_eq_false (by omega)
          clear hr1
          by_cases hq0 : q0 < 0
          · have hsb : Hid (∀ w', Calls Tryz.prog 15 #[.pointer (some ⟨bt, 0, none⟩), .int .i64 q0, .slice pm n cm] w' fun e w'' => e = .returned (.tuple #[.slice none 0 0, .int .i64 1]) ∧ Own w' w'' []) := fun w' => lsign_bad w' _ _ q0 (Or.inr ⟨⟨bt, rfl⟩, hq0⟩)
            clear hsf
            have tok1 : True := trivial
            go_wp2_with (first
              | (clear tok1; go_at_call 14; refine (hnr.out _ (Tr.out.mv H (by simp))).mono ?_; rintro e w6 ⟨rfl, h3⟩; have H2 := H.call0 h3; clear H h3; have H := H2; clear H2; have tok2 : True := trivial)
              | (clear tok2; refine st_new rfl (rn_alloc H rfl info_hash) ?_; clear H; intro b18 w7 hb18 H; have tok3 : True := trivial)
              | (clear tok3; refine st_skip rfl (rn_storeAll (vs := u8s (List.replicate 32 0)) H rfl rfl rfl (by kernel_rfl) .head (by kernel_rfl) (oneCell_ints _ _)) ?_; clear H; intro w8 H; have tok4 : True := trivial)
              | (clear tok4; refine st_valG rfl (rn_loadAll (cs := u8s (List.replicate 32 0)) H rfl rfl (.head _) rfl rfl (by kernel_rfl)) ?_; have tok5 : True := trivial)
              | (clear tok5; go_at_call 15; refine (hsf1.out _ bt (Tr.out.mv (H.end0 (by simpa using hb18)) (by simp)) (Mr.out.mv (H.end0 (by simpa using hb18)) (by simp)) MN.out).mono ?_; rintro e w10 ⟨ag, ao, ac, rfl, hac, hA, hag, h3⟩; have A10 := Lib.hid hA; have HE2 := Lib.hid ((H.end0 (by simpa using hb18)).trans h3); clear H h3 hA hag; have H := Own.refl w10; have tok6 : True := trivial)
              | (clear tok6; go_at_call 16; refine (hrs.out _ bx (Xr.out.mv HE2.out (by simp)) (Mr.out.mv HE2.out (by simp))).mono ?_; rintro e w11 ⟨rp, rc, rfl, hP, h3⟩; have R11 := Lib.hid hP; have H2 := H.call0 h3; clear H h3 hP; have H := H2; clear H2; have tok7 : True := trivial)
              | (clear tok7; go_at_call 11; refine (hsmS.out _ _ _ (A10.out.mv H (by simp)) R11.out).mono ?_; rintro e w12 ⟨rfl, h3⟩; have H2 := H.call0 h3; clear H h3; have H := H2; clear H2; have tok8 : True := trivial)
              | (clear tok8; go_at_call 17; refine (hsi.out _).mono ?_; rintro e w13 ⟨rfl, h3⟩; have H2 := H.call0 h3; clear H h3; have H := H2; clear H2; have tok9 : True := trivial)
              | (clear tok9; go_at_call 15; refine (hsb.out _).mono ?_; rintro e w14 ⟨rfl, h3⟩; have H2 := H.call0 h3; clear H h3; have H := H2; clear H2; have tok10 : True := trivial)
              | (clear tok10; go_at_call 8; refine (hto.out _).mono ?_; rintro e w15 ⟨rfl, h3⟩; have H2 := H.call0 h3; clear H h3; have H := H2; clear H2; have tok11 : True := trivial))
            have HE := Lib.hid (HWr.out.trans (HE2.out.trans H))
            clear H
            go_ret
            exact ⟨rfl, HE.out⟩
          by_cases hq1 : 32 ≤ q0
          · have hsb : Hid (∀ w', Calls Tryz.prog 15 #[.pointer (some ⟨bt, 0, none⟩), .int .i64 q0, .slice pm n cm] w' fun e w'' => e = .returned (.tuple #[.slice none 0 0, .int .i64 4]) ∧ Own w' w'' []) := fun w' => lsign_full w' bt _ q0 hq1
            clear hsf
            have tok1 : True := trivial
            go_wp2_with (first
              | (clear tok1; go_at_call 14; refine (hnr.out _ (Tr.out.mv H (by simp))).mono ?_; rintro e w6 ⟨rfl, h3⟩; have H2 := H.call0 h3; clear H h3; have H := H2; clear H2; have tok2 : True := trivial)
              | (clear tok2; refine st_new rfl (rn_alloc H rfl info_hash) ?_; clear H; intro b18 w7 hb18 H; have tok3 : True := trivial)
              | (clear tok3; refine st_skip rfl (rn_storeAll (vs := u8s (List.replicate 32 0)) H rfl rfl rfl (by kernel_rfl) .head (by kernel_rfl) (oneCell_ints _ _)) ?_; clear H; intro w8 H; have tok4 : True := trivial)
              | (clear tok4; refine st_valG rfl (rn_loadAll (cs := u8s (List.replicate 32 0)) H rfl rfl (.head _) rfl rfl (by kernel_rfl)) ?_; have tok5 : True := trivial)
              | (clear tok5; go_at_call 15; refine (hsf1.out _ bt (Tr.out.mv (H.end0 (by simpa using hb18)) (by simp)) (Mr.out.mv (H.end0 (by simpa using hb18)) (by simp)) MN.out).mono ?_; rintro e w10 ⟨ag, ao, ac, rfl, hac, hA, hag, h3⟩; have A10 := Lib.hid hA; have HE2 := Lib.hid ((H.end0 (by simpa using hb18)).trans h3); clear H h3 hA hag; have H := Own.refl w10; have tok6 : True := trivial)
              | (clear tok6; go_at_call 16; refine (hrs.out _ bx (Xr.out.mv HE2.out (by simp)) (Mr.out.mv HE2.out (by simp))).mono ?_; rintro e w11 ⟨rp, rc, rfl, hP, h3⟩; have R11 := Lib.hid hP; have H2 := H.call0 h3; clear H h3 hP; have H := H2; clear H2; have tok7 : True := trivial)
              | (clear tok7; go_at_call 11; refine (hsmS.out _ _ _ (A10.out.mv H (by simp)) R11.out).mono ?_; rintro e w12 ⟨rfl, h3⟩; have H2 := H.call0 h3; clear H h3; have H := H2; clear H2; have tok8 : True := trivial)
              | (clear tok8; go_at_call 17; refine (hsi.out _).mono ?_; rintro e w13 ⟨rfl, h3⟩; have H2 := H.call0 h3; clear H h3; have H := H2; clear H2; have tok9 : True := trivial)
              | (clear tok9; go_at_call 15; refine (hsb.out _).mono ?_; rintro e w14 ⟨rfl, h3⟩; have H2 := H.call0 h3; clear H h3; have H := H2; clear H2; have tok10 : True := trivial)
              | (clear tok10; go_at_call 8; refine (hto.out _).mono ?_; rintro e w15 ⟨rfl, h3⟩; have H2 := H.call0 h3; clear H h3; have H := H2; clear H2; have tok11 : True := trivial))
            have HE := Lib.hid (HWr.out.trans (HE2.out.trans H))
            clear H
            go_ret
            exact ⟨rfl, HE.out⟩
          · have hqn : ((q0.toNat : Nat) : Int) = q0 := by omega
            have hsf2 := Lib.hid (fun w' b => hsf.out w' b q0.toNat (by omega))
            rw [hqn] at hsf2
            have hq2 : 0 ≤ q0 := by omega
            have hq3 : q0 < 32 := by omega
            have hpq := hpe.symm.trans (rem_small q0 32 hq2 hq3 (by omega))
            rw [hpq] at hsf1 hrs
            clear hq0 hq1 hqn hpe hpq
            clear hsf
            have tok1 : True := trivial
            go_wp2_with (first
              | (clear tok1; go_at_call 14; refine (hnr.out _ (Tr.out.mv H (by simp))).mono ?_; rintro e w6 ⟨rfl, h3⟩; have H2 := H.call0 h3; clear H h3; have H := H2; clear H2; have tok2 : True := trivial)
              | (clear tok2; refine st_new rfl (rn_alloc H rfl info_hash) ?_; clear H; intro b18 w7 hb18 H; have tok3 : True := trivial)
              | (clear tok3; refine st_skip rfl (rn_storeAll (vs := u8s (List.replicate 32 0)) H rfl rfl rfl (by kernel_rfl) .head (by kernel_rfl) (oneCell_ints _ _)) ?_; clear H; intro w8 H; have tok4 : True := trivial)
              | (clear tok4; refine st_valG rfl (rn_loadAll (cs := u8s (List.replicate 32 0)) H rfl rfl (.head _) rfl rfl (by kernel_rfl)) ?_; have tok5 : True := trivial)
              | (clear tok5; go_at_call 15; refine (hsf1.out _ bt (Tr.out.mv (H.end0 (by simpa using hb18)) (by simp)) (Mr.out.mv (H.end0 (by simpa using hb18)) (by simp)) MN.out).mono ?_; rintro e w10 ⟨ag, ao, ac, rfl, hac, hA, hag, h3⟩; have A10 := Lib.hid hA; have HE2 := Lib.hid ((H.end0 (by simpa using hb18)).trans h3); clear H h3 hA hag; have H := Own.refl w10; have tok6 : True := trivial)
              | (clear tok6; go_at_call 16; refine (hrs.out _ bx (Xr.out.mv HE2.out (by simp)) (Mr.out.mv HE2.out (by simp))).mono ?_; rintro e w11 ⟨rp, rc, rfl, hP, h3⟩; have R11 := Lib.hid hP; have H2 := H.call0 h3; clear H h3 hP; have H := H2; clear H2; have tok7 : True := trivial)
              | (clear tok7; go_at_call 11; refine (hsmS.out _ _ _ (A10.out.mv H (by simp)) R11.out).mono ?_; rintro e w12 ⟨rfl, h3⟩; have H2 := H.call0 h3; clear H h3; have H := H2; clear H2; have tok8 : True := trivial)
              | (clear tok8; go_at_call 17; refine (hsi.out _).mono ?_; rintro e w13 ⟨rfl, h3⟩; have H2 := H.call0 h3; clear H h3; have H := H2; clear H2; have tok9 : True := trivial)
              | (clear tok9; go_at_call 15; refine (hsf2.out _ bt (Tr.out.mv (HE2.out.trans H) (by simp)) (Mr.out.mv (HE2.out.trans H) (by simp)) MN.out).mono ?_; rintro e w14 ⟨bg, bo, bc, rfl, hbc, hB, hbg, h3⟩; have H2 := H.call0 h3; clear H h3 hB hbg hbc; have H := H2; clear H2; have tok10 : True := trivial)
              | (clear tok10; go_at_call 8; refine (hto.out _).mono ?_; rintro e w15 ⟨rfl, h3⟩; have H2 := H.call0 h3; clear H h3; have H := H2; clear H2; have tok11 : True := trivial))
            have HE := Lib.hid (HWr.out.trans (HE2.out.trans H))
            clear H
            go_ret
            exact ⟨rfl, HE.out⟩
        · have hrb : decide (r0 < 64) = false := decide_eq_false (by omega)
          have hra : decide (1 ≤ r0) = true := decide_eq_true hr1
          clear hr1 hr2
          by_cases hq0 : q0 < 0
          · have hsb : Hid (∀ w', Calls Tryz.prog 15 #[.pointer (some ⟨bt, 0, none⟩), .int .i64 q0, .slice pm n cm] w' fun e w'' => e = .returned (.tuple #[.slice none 0 0, .int .i64 1]) ∧ Own w' w'' []) := fun w' => lsign_bad w' _ _ q0 (Or.inr ⟨⟨bt, rfl⟩, hq0⟩)
            clear hsf
            have tok1 : True := trivial
            go_wp2_with (first
              | (clear tok1; go_at_call 14; refine (hnr.out _ (Tr.out.mv H (by simp))).mono ?_; rintro e w6 ⟨rfl, h3⟩; have H2 := H.call0 h3; clear H h3; have H := H2; clear H2; have tok2 : True := trivial)
              | (clear tok2; refine st_new rfl (rn_alloc H rfl info_hash) ?_; clear H; intro b18 w7 hb18 H; have tok3 : True := trivial)
              | (clear tok3; refine st_skip rfl (rn_storeAll (vs := u8s (List.replicate 32 0)) H rfl rfl rfl (by kernel_rfl) .head (by kernel_rfl) (oneCell_ints _ _)) ?_; clear H; intro w8 H; have tok4 : True := trivial)
              | (clear tok4; refine st_valG rfl (rn_loadAll (cs := u8s (List.replicate 32 0)) H rfl rfl (.head _) rfl rfl (by kernel_rfl)) ?_; have tok5 : True := trivial)
              | (clear tok5; go_at_call 15; refine (hsf1.out _ bt (Tr.out.mv (H.end0 (by simpa using hb18)) (by simp)) (Mr.out.mv (H.end0 (by simpa using hb18)) (by simp)) MN.out).mono ?_; rintro e w10 ⟨ag, ao, ac, rfl, hac, hA, hag, h3⟩; have A10 := Lib.hid hA; have HE2 := Lib.hid ((H.end0 (by simpa using hb18)).trans h3); clear H h3 hA hag; have H := Own.refl w10; have tok6 : True := trivial)
              | (clear tok6; go_at_call 16; refine (hrs.out _ bx (Xr.out.mv HE2.out (by simp)) (Mr.out.mv HE2.out (by simp))).mono ?_; rintro e w11 ⟨rp, rc, rfl, hP, h3⟩; have R11 := Lib.hid hP; have H2 := H.call0 h3; clear H h3 hP; have H := H2; clear H2; have tok7 : True := trivial)
              | (clear tok7; go_at_call 11; refine (hsmS.out _ _ _ (A10.out.mv H (by simp)) R11.out).mono ?_; rintro e w12 ⟨rfl, h3⟩; have H2 := H.call0 h3; clear H h3; have H := H2; clear H2; have tok8 : True := trivial)
              | (clear tok8; go_at_call 17; refine (hsi.out _).mono ?_; rintro e w13 ⟨rfl, h3⟩; have H2 := H.call0 h3; clear H h3; have H := H2; clear H2; have tok9 : True := trivial)
              | (clear tok9; go_at_call 15; refine (hsb.out _).mono ?_; rintro e w14 ⟨rfl, h3⟩; have H2 := H.call0 h3; clear H h3; have H := H2; clear H2; have tok10 : True := trivial)
              | (clear tok10; go_at_call 8; refine (hto.out _).mono ?_; rintro e w15 ⟨rfl, h3⟩; have H2 := H.call0 h3; clear H h3; have H := H2; clear H2; have tok11 : True := trivial))
            have HE := Lib.hid (HWr.out.trans (HE2.out.trans H))
            clear H
            go_ret
            exact ⟨rfl, HE.out⟩
          by_cases hq1 : 32 ≤ q0
          · have hsb : Hid (∀ w', Calls Tryz.prog 15 #[.pointer (some ⟨bt, 0, none⟩), .int .i64 q0, .slice pm n cm] w' fun e w'' => e = .returned (.tuple #[.slice none 0 0, .int .i64 4]) ∧ Own w' w'' []) := fun w' => lsign_full w' bt _ q0 hq1
            clear hsf
            have tok1 : True := trivial
            go_wp2_with (first
              | (clear tok1; go_at_call 14; refine (hnr.out _ (Tr.out.mv H (by simp))).mono ?_; rintro e w6 ⟨rfl, h3⟩; have H2 := H.call0 h3; clear H h3; have H := H2; clear H2; have tok2 : True := trivial)
              | (clear tok2; refine st_new rfl (rn_alloc H rfl info_hash) ?_; clear H; intro b18 w7 hb18 H; have tok3 : True := trivial)
              | (clear tok3; refine st_skip rfl (rn_storeAll (vs := u8s (List.replicate 32 0)) H rfl rfl rfl (by kernel_rfl) .head (by kernel_rfl) (oneCell_ints _ _)) ?_; clear H; intro w8 H; have tok4 : True := trivial)
              | (clear tok4; refine st_valG rfl (rn_loadAll (cs := u8s (List.replicate 32 0)) H rfl rfl (.head _) rfl rfl (by kernel_rfl)) ?_; have tok5 : True := trivial)
              | (clear tok5; go_at_call 15; refine (hsf1.out _ bt (Tr.out.mv (H.end0 (by simpa using hb18)) (by simp)) (Mr.out.mv (H.end0 (by simpa using hb18)) (by simp)) MN.out).mono ?_; rintro e w10 ⟨ag, ao, ac, rfl, hac, hA, hag, h3⟩; have A10 := Lib.hid hA; have HE2 := Lib.hid ((H.end0 (by simpa using hb18)).trans h3); clear H h3 hA hag; have H := Own.refl w10; have tok6 : True := trivial)
              | (clear tok6; go_at_call 16; refine (hrs.out _ bx (Xr.out.mv HE2.out (by simp)) (Mr.out.mv HE2.out (by simp))).mono ?_; rintro e w11 ⟨rp, rc, rfl, hP, h3⟩; have R11 := Lib.hid hP; have H2 := H.call0 h3; clear H h3 hP; have H := H2; clear H2; have tok7 : True := trivial)
              | (clear tok7; go_at_call 11; refine (hsmS.out _ _ _ (A10.out.mv H (by simp)) R11.out).mono ?_; rintro e w12 ⟨rfl, h3⟩; have H2 := H.call0 h3; clear H h3; have H := H2; clear H2; have tok8 : True := trivial)
              | (clear tok8; go_at_call 17; refine (hsi.out _).mono ?_; rintro e w13 ⟨rfl, h3⟩; have H2 := H.call0 h3; clear H h3; have H := H2; clear H2; have tok9 : True := trivial)
              | (clear tok9; go_at_call 15; refine (hsb.out _).mono ?_; rintro e w14 ⟨rfl, h3⟩; have H2 := H.call0 h3; clear H h3; have H := H2; clear H2; have tok10 : True := trivial)
              | (clear tok10; go_at_call 8; refine (hto.out _).mono ?_; rintro e w15 ⟨rfl, h3⟩; have H2 := H.call0 h3; clear H h3; have H := H2; clear H2; have tok11 : True := trivial))
            have HE := Lib.hid (HWr.out.trans (HE2.out.trans H))
            clear H
            go_ret
            exact ⟨rfl, HE.out⟩
          · have hqn : ((q0.toNat : Nat) : Int) = q0 := by omega
            have hsf2 := Lib.hid (fun w' b => hsf.out w' b q0.toNat (by omega))
            rw [hqn] at hsf2
            have hq2 : 0 ≤ q0 := by omega
            have hq3 : q0 < 32 := by omega
            have hpq := hpe.symm.trans (rem_small q0 32 hq2 hq3 (by omega))
            rw [hpq] at hsf1 hrs
            clear hq0 hq1 hqn hpe hpq
            clear hsf
            have tok1 : True := trivial
            go_wp2_with (first
              | (clear tok1; go_at_call 14; refine (hnr.out _ (Tr.out.mv H (by simp))).mono ?_; rintro e w6 ⟨rfl, h3⟩; have H2 := H.call0 h3; clear H h3; have H := H2; clear H2; have tok2 : True := trivial)
              | (clear tok2; refine st_new rfl (rn_alloc H rfl info_hash) ?_; clear H; intro b18 w7 hb18 H; have tok3 : True := trivial)
              | (clear tok3; refine st_skip rfl (rn_storeAll (vs := u8s (List.replicate 32 0)) H rfl rfl rfl (by kernel_rfl) .head (by kernel_rfl) (oneCell_ints _ _)) ?_; clear H; intro w8 H; have tok4 : True := trivial)
              | (clear tok4; refine st_valG rfl (rn_loadAll (cs := u8s (List.replicate 32 0)) H rfl rfl (.head _) rfl rfl (by kernel_rfl)) ?_; have tok5 : True := trivial)
              | (clear tok5; go_at_call 15; refine (hsf1.out _ bt (Tr.out.mv (H.end0 (by simpa using hb18)) (by simp)) (Mr.out.mv (H.end0 (by simpa using hb18)) (by simp)) MN.out).mono ?_; rintro e w10 ⟨ag, ao, ac, rfl, hac, hA, hag, h3⟩; have A10 := Lib.hid hA; have HE2 := Lib.hid ((H.end0 (by simpa using hb18)).trans h3); clear H h3 hA hag; have H := Own.refl w10; have tok6 : True := trivial)
              | (clear tok6; go_at_call 16; refine (hrs.out _ bx (Xr.out.mv HE2.out (by simp)) (Mr.out.mv HE2.out (by simp))).mono ?_; rintro e w11 ⟨rp, rc, rfl, hP, h3⟩; have R11 := Lib.hid hP; have H2 := H.call0 h3; clear H h3 hP; have H := H2; clear H2; have tok7 : True := trivial)
              | (clear tok7; go_at_call 11; refine (hsmS.out _ _ _ (A10.out.mv H (by simp)) R11.out).mono ?_; rintro e w12 ⟨rfl, h3⟩; have H2 := H.call0 h3; clear H h3; have H := H2; clear H2; have tok8 : True := trivial)
              | (clear tok8; go_at_call 17; refine (hsi.out _).mono ?_; rintro e w13 ⟨rfl, h3⟩; have H2 := H.call0 h3; clear H h3; have H := H2; clear H2; have tok9 : True := trivial)
              | (clear tok9; go_at_call 15; refine (hsf2.out _ bt (Tr.out.mv (HE2.out.trans H) (by simp)) (Mr.out.mv (HE2.out.trans H) (by simp)) MN.out).mono ?_; rintro e w14 ⟨bg, bo, bc, rfl, hbc, hB, hbg, h3⟩; have H2 := H.call0 h3; clear H h3 hB hbg hbc; have H := H2; clear H2; have tok10 : True := trivial)
              | (clear tok10; go_at_call 8; refine (hto.out _).mono ?_; rintro e w15 ⟨rfl, h3⟩; have H2 := H.call0 h3; clear H h3; have H := H2; clear H2; have tok11 : True := trivial))
            have HE := Lib.hid (HWr.out.trans (HE2.out.trans H))
            clear H
            go_ret
            exact ⟨rfl, HE.out⟩

set_option maxRecDepth 100000 in
set_option maxHeartbeats 8000000 in
theorem lmsAsks_row (w : World) (ss : List Int) (h48 : ss.length = 48) (hsb : ∀ i, i < ss.length → 0 ≤ ss[i]?.getD 0 ∧ ss[i]?.getD 0 < 256) (w0 : Int) (_ : IntKind.i64.min ≤ w0) (_ : w0 ≤ IntKind.i64.max) (q0 : Int) (_ : IntKind.i64.min ≤ q0) (_ : q0 ≤ IntKind.i64.max)
    (mv : Value) (msg : List Int) (hm : BytesAt w mv msg) (hml : ∀ k, blk mv = some k → k < w.heap.size) (hmb : ∀ i, i < msg.length → 0 ≤ msg[i]?.getD 0 ∧ msg[i]?.getD 0 < 256) (r0 : Int) (_ : IntKind.i64.min ≤ r0) (_ : r0 ≤ IntKind.i64.max) :
    Calls Tryz.prog 3 #[.agg (u8s ss).toArray, .int .i64 w0, .int .i64 q0, mv, .int .i64 r0] w fun e w' => e = .returned (.bool true) ∧ Own w w' [] := by
  rename_i q1 q2 q3 q4 q5 q6
  clear q1 q2 q3 q4 q5 q6
  have H := Own.refl w
  have hO : Old w mv msg := ⟨hm, hml⟩
  obtain ⟨pm, cm, rfl⟩ := hO.shape
  obtain ⟨n, hn⟩ : ∃ n, n = msg.length := ⟨_, rfl⟩
  rw [← hn] at hO ⊢
  obtain ⟨id, seed, rfl, h16, h32⟩ := split48 h48
  have hidb : IsBytes id := isBytes_left hsb
  have hsdb : IsBytes seed := isBytes_mem.2 fun x hx => isBytes_mem.1 hsb x (List.mem_append_right _ hx)
  have hto := Lib.hid ltold_any
  by_cases hbig : 200 < n
  · clear hm hml hmb hO hn h48 h16 h32 hsb hidb hsdb
    go_enter Tryz.func3, Tryz.ntmps3
    have tok1 : True := trivial
    go_wp2_with (first
      | (clear tok1; refine st_new rfl (rn_box (cs := u8s (id ++ seed)) H rfl rfl rfl) ?_; clear H; intro b7 w1 hb7 H; have tok2 : True := trivial)
      | (clear tok2; go_at_call 8; refine (hto.out _).mono ?_; rintro e w2 ⟨rfl, h3⟩; have H2 := H.call0 h3; clear H h3; have H := H2; clear H2; have tok3 : True := trivial))
    have h1 := Lib.hid (H.end0 (by simpa using hb7))
    clear H
    go_ret
    exact ⟨rfl, h1.out⟩
  obtain ⟨k0, hk0, hk2⟩ := rem_wrap w0 2 (by omega) (by omega)
  have hc : k0 = 0 ∨ k0 = 1 := by omega
  rcases hc with rfl | rfl
  · exact lmsAsks_1 w id seed h16 h32 hidb hsdb w0 q0 r0 pm n cm msg hO hmb hn (by omega) hk0
  · exact lmsAsks_2 w id seed h16 h32 hidb hsdb w0 q0 r0 pm n cm msg hO hmb hn (by omega) hk0

end Go.Proofs.YtfihlmnbonnekaaGreat
