/- chirographlaw4.LmsVerifies: the walk. -/
import Derived.Test.YtfihlmnbonnekaaGreatLBuf
import Derived.Test.YtfihlmnbonnekaaGreatLHolds
import Derived.Test.YtfihlmnbonnekaaGreatRVer
namespace Go.Proofs.YtfihlmnbonnekaaGreat
open Go.RowKit

theorem bytes_cellV0 {w : World} {g n c : Nat} {bs : List Int} (h : BytesAt w (.slice (some ⟨g, 0, none⟩) n c) bs) {j : Nat} {v : Value} (hj : (u8s bs)[j]? = some v) : w.cell? ⟨g, j, none⟩ = some v := by
  have := bytes_cellV h j v hj
  rwa [Nat.zero_add] at this
theorem BufO {w w1 : World} {v : Value} {xs : List Int} (h : Buf 5 .u8 w w1 [] v xs) : Old w1 v xs := ⟨h.bytesAt, h.lt⟩
theorem Old.intro {w : World} {v : Value} {xs : List Int} (h : BytesAt w v xs) (h2 : ∀ k, blk v = some k → k < w.heap.size) : Old w v xs := ⟨h, h2⟩
theorem BufR.ofB {w w1 : World} {v : Value} {xs : List Int} (h : Buf 5 .u8 w w1 [] v xs) : BufR w.heap.size xs w1 v := ⟨w, Nat.le_refl _, h⟩
set_option maxRecDepth 100000 in
set_option maxHeartbeats 8000000 in
theorem lmsVerifies_0 (w : World) (id seed : List Int) (h16 : id.length = 16) (h32 : seed.length = 32) (hidb : IsBytes id) (q0 t0 at0 x1 : Int) (hx1 : 0 ≤ x1 ∧ x1 < 256) (pm : Option Addr) (n cm : Nat) (msg : List Int) (hO : Old w (.slice pm n cm) msg) (hmb : IsBytes msg) (hn : n = msg.length) (hn5 : n ≤ 100) (hwe : wrap64 ((IntKind.u64.wrap t0).tmod 5) = 0) :
    Calls Tryz.prog 4 #[.agg (u8s (id ++ seed)).toArray, .int .i64 q0, .slice pm n cm, .int .i64 t0, .int .i64 at0, .int .u8 x1] w fun e w' => e = .returned (.bool true) ∧ Own w w' [] := by
  have H := Own.refl w
  have hto := Lib.hid ltold_any
  have _ := hx1
  have h48 : (id ++ seed).length = 48 := by rw [List.length_append, h16, h32]
  have hsz48 := Lib.hid (size_secretL h16 h32)
  obtain ⟨p, hpe, hp⟩ := rem_wrap q0 32 (by omega) (by omega)
  have hp32 : p < 32 := by omega
  have hnw : Hid (∀ w', Calls Tryz.prog 9 #[.agg (u8s (id ++ seed)).toArray, .int .i64 2] w' fun e w'' => ∃ b, e = .returned (.tuple #[.pointer (some ⟨b, 0, none⟩), .int .i64 0]) ∧ w'.heap.size ≤ b ∧ Own w' w'' [(b, treeG (id ++ seed) 2 0 0 (List.replicate 2048 0) 0, 74)]) := fun w' => lnew_any w' (id ++ seed) h48 2 (by omega)
  have hsg : Hid (∀ w' b, Own w' w' [(b, treeG (id ++ seed) 2 0 0 (List.replicate 2048 0) 0, 74)] → Old w' (.slice pm n cm) msg → (∀ k, blk (Value.slice pm n cm) = some k → k ≠ b) → Calls Tryz.prog 15 #[.pointer (some ⟨b, 0, none⟩), .int .i64 p, .slice pm n cm] w' fun e w'' => ∃ g c, e = .returned (.tuple #[.slice (some ⟨g, 0, none⟩) 4460 c, .int .i64 0]) ∧ 4460 ≤ c ∧ w'.heap.size ≤ g ∧ g < w''.heap.size ∧ BufR w'.heap.size (lsigOf id seed 2 p msg) w'' (.slice (some ⟨g, 0, none⟩) 4460 c) ∧ Own w' w'' [(b, fullT id seed 2, 74)]) := fun w' b h1 h2 h4 =>
    signA_any w' b id seed h16 h32 2 (by omega) _ (Or.inl rfl) p hp32 _ msg h2 hmb (by omega) h1 h4 rfl
  have hpu : Hid (∀ w' b, TreeAt w' b id seed 2 → Calls Tryz.prog 12 #[.pointer (some ⟨b, 0, none⟩)] w' fun e w'' => ∃ g c, e = .returned (.slice (some ⟨g, 0, none⟩) 56 c) ∧ 56 ≤ c ∧ w'.heap.size ≤ g ∧ g < w''.heap.size ∧ BufR w'.heap.size (pubL id seed 2) w'' (.slice (some ⟨g, 0, none⟩) 56 c) ∧ Own w' w'' []) := fun w' b h => lpubA_any w' b id seed h16 h32 2 (by omega) h
  have v1 := ver_sig h16 seed (k := 2) (by omega) hp32 msg
  have hsab := isBytes_lsig id seed 2 p msg
  have hsal : Hid ((lsigOf id seed 2 p msg).length = 4460) := length_lsigOf id seed 2 p msg
  have hpbb := isBytes_pubL hidb seed 2
  have hwd2 := width_pubL h16 seed (k := 2) (by omega)
  have hpbl : Hid ((pubL id seed 2).length = 56) := length_pubL h16 seed 2
  have hnl : Hid (msg.length = n) := hn.symm
  obtain ⟨sa, hsa0⟩ : ∃ s, s = lsigOf id seed 2 p msg := ⟨_, rfl⟩
  obtain ⟨pb, hpb0⟩ : ∃ s, s = pubL id seed 2 := ⟨_, rfl⟩
  rw [← hsa0] at hsg v1 hsab hsal
  rw [← hpb0] at hpu v1 hpbb hpbl hwd2
  have hsal9 : sa.length ≤ 1000000 := by rw [hsal.out]; omega
  have hpbl9 : pb.length ≤ 1000000 := by rw [hpbl.out]; omega
  have hfo : Hid (∀ w' v, Old w' v pb → Calls Tryz.prog 19 #[v] w' fun e w'' => e = .returned (.bool true) ∧ Own w' w'' []) := fun w' v h => by
    have h1 := form_any w' v pb h hpbb hpbl9
    rw [hwd2] at h1
    exact h1
  have hv1 : Hid (∀ w' v u t, Old w' v pb → Old w' u msg → Old w' t sa → Calls Tryz.prog 18 #[v, u, t] w' fun e w'' => e = .returned (.int .i64 (verL pb msg sa)) ∧ Own w' w'' []) := fun w' v u t h1 h2 h3 => ver_any w' v u t pb msg sa h1 hpbb hpbl9 h2 hmb (by omega) h3 hsab hsal9
  rw [v1] at hv1
  obtain ⟨n1, hn1, hn1l⟩ := rem_wrap at0 56 (by omega) (by omega)
  have hn1l' : n1 < 56 := by omega
  obtain ⟨z, hz⟩ : ∃ z, pb[n1]?.getD 0 = z := ⟨_, rfl⟩
  have hz0 : Hid (0 ≤ z ∧ z < 256) := by have := hpbb n1 (by rw [hpbl.out]; exact hn1l'); rw [hz] at this; exact this
  have hzg : Hid ((u8s pb)[n1]? = some (.int .u8 z)) := by show _ = _; rw [← hz]; exact ints_get (by rw [hpbl.out]; exact hn1l')
  obtain ⟨ys, hys⟩ : ∃ ys, pb.set n1 (bits .xor .u8 z x1) = ys := ⟨_, rfl⟩
  have hys' := Lib.hid hys
  have hyl : Hid (ys.length = 56) := by show _ = _; rw [← hys, List.length_set, hpbl.out]
  have hyl9 : ys.length ≤ 1000000 := by rw [hyl.out]; omega
  have hyb : IsBytes ys := by rw [← hys]; exact isBytes_set4 hpbb (xor_facts4 hz0.out hx1)
  have hi1 : Hid (n1 < pb.length) := by show _ < _; rw [hpbl.out]; exact hn1l'
  have hv2 : Hid (∀ w' v u t, Old w' v ys → Old w' u msg → Old w' t sa → Calls Tryz.prog 18 #[v, u, t] w' fun e w'' => e = .returned (.int .i64 (verL ys msg sa)) ∧ Own w' w'' []) := fun w' v u t h1 h2 h3 => ver_any w' v u t ys msg sa h1 hyb hyl9 h2 hmb (by omega) h3 hsab hsal9
  have hr2 : Hid (∀ w' v u t, Old w' v ys → Old w' u msg → Old w' t sa → Calls Tryz.prog 20 #[v, u, t] w' fun e w'' => e = .returned (.int .i64 (verL ys msg sa)) ∧ Own w' w'' []) := fun w' v u t h1 h2 h3 => rver_any w' v u t ys msg sa h1 hyb h2 hmb (by omega) h3 hsab
  have hf2 : Hid (∀ w' v, Old w' v ys → Calls Tryz.prog 19 #[v] w' fun e w'' => e = .returned (.bool (decide (0 < widthL ys))) ∧ Own w' w'' []) := fun w' v h => form_any w' v ys h hyb hyl9
  have hg2 : Hid (∀ w' v, Old w' v ys → Calls Tryz.prog 21 #[v] w' fun e w'' => e = .returned (.bool (decide (0 < widthL ys))) ∧ Own w' w'' []) := fun w' v h => rform_any w' v ys h hyb
  obtain ⟨V, hV⟩ : ∃ V, V = verL ys msg sa := ⟨_, rfl⟩
  obtain ⟨B, hB⟩ : ∃ B, B = decide (0 < widthL ys) := ⟨_, rfl⟩
  rw [← hV] at hv2 hr2
  rw [← hB] at hf2 hg2
  have hOw := Lib.hid hO
  clear hO hmb hn h16 h32 h48 hidb v1 hsab hsal9 hpbb hwd2 hpbl9 hsa0 hpb0 hV hB hp hz hys hyl9 hyb hn1l
  go_enter Tryz.func4, Tryz.ntmps4
  have tok1 : True := trivial
  go_wp2_with (first
    | (clear tok1; refine st_new rfl (rn_box (cs := u8s (id ++ seed)) H rfl rfl rfl) ?_; clear H; intro b7 w1 hb7 H; have tok2 : True := trivial)
    | (clear tok2; refine st_val rfl (rn_loadAll (cs := u8s (id ++ seed)) H rfl rfl (.head _) rfl rfl hsz48.out) ?_; have tok3 : True := trivial)
    | (clear tok3; go_at_call 9; refine (hnw.out _).mono ?_; rintro e w2 ⟨bt, rfl, hbt, h3⟩; have hbt0 := Nat.le_trans H.size hbt; have H2 := H.callNew h3 hbt; have M2 := Lib.hid (hOw.out.mv H2 (by simp; omega)); have MN : ∀ k, blk (Value.slice pm n cm) = some k → k ≠ bt := (fun k hk => by have := hOw.out.2 k hk; omega); clear H h3; have H := H2; clear H2; have tok4 : True := trivial)
    | (clear tok4; go_at_call 15; refine (hsg.out _ bt (H.sub1 (.head _)) M2.out MN).mono ?_; rintro e w5 ⟨gs, cs, rfl, hcs, hgs, hgs5, hA, h3⟩; have hgs0 := Nat.le_trans H.size hgs; have hB1 := Lib.hid H.size; have H2 := Own.next (L := [_]) H h3 rfl; have S5 := Lib.hid hA; have T5 := Lib.hid (TreeAt.of h3); have HW := Lib.hid (H2.end0 (by simp; omega)); have M5 := Lib.hid (M2.out.mv1 h3 MN); clear H h3 hA MN M2 H2; have H := Own.refl w5; have tok5 : True := trivial)
    | (clear tok5; go_at_call 12; refine (hpu.out _ bt T5.out).mono ?_; rintro e w7 ⟨gp, cp, rfl, hcp, hgp, hgp7, hP, h3⟩; have hgp0 := Nat.le_trans HW.out.size hgp; have P7 := Lib.hid hP; have HW7 := Lib.hid (HW.out.trans h3); have S7 := Lib.hid (S5.out.mv h3); have M7 := Lib.hid (M5.out.mv h3 (by simp)); have hB2 := Lib.hid HW.out.size; clear H h3 hP HW S5 M5 T5; have H := Own.refl w7; have tok6 : True := trivial)
    | (clear tok6; refine st_new rfl (rn_buildSlice (e := 5) (cs := []) H rfl (fun w' => by kernel_rfl)) ?_; clear H; intro b5 w8 hb5 M; have E := BufV.lit (n := 0) (sz := 1) M hb5 rfl (by omega); have M8 := Lib.hid (M7.out.mv E.own0 (by simp)); clear M hb5; have tok7 : True := trivial)
    | (clear tok7; refine st_appV rfl E elem_u8 rfl rfl rfl rfl (m := n) (ds := u8s msg) (by have h := M8.out.1; rw [BytesAt, hnl.out] at h; exact h) (by rw [length_ints, Nat.mul_one]; exact hnl.out) (oneCell_ints _ _) (by omega) (by omega) ?_; clear E M8; intro p6 c6 w9 E; rw [List.nil_append, Nat.zero_add] at E; rw [Nat.zero_add]; have M9 : Hid (Buf 5 .u8 w7 w9 [] (.slice p6 n c6) msg) := (by show Buf _ _ _ _ _ _ _; unfold Buf; rw [hnl.out]; exact E); have HW9 := Lib.hid (HW7.out.trans E.own0); have P9 := Lib.hid (P7.out.mv E.own0); have S9 := Lib.hid (S7.out.mv E.own0); have h79 := Lib.hid E.own0; have hB3 := Lib.hid HW7.out.size; clear E M7 HW7; have H := Own.refl w9; have tok8 : True := trivial)
    | (clear tok8; go_at_call 18; refine (hv1.out _ _ _ _ (P9.out.mv H).old ⟨(M9.out.call0 H).bytesAt, (M9.out.call0 H).lt⟩ (S9.out.mv H).old).mono ?_; rintro e w10 ⟨rfl, h3⟩; have H2 := H.call0 h3; clear H h3; have H := H2; clear H2; have tok9 : True := trivial)
    | (clear tok9; go_at_call 19; refine (hfo.out _ _ (P9.out.mv H).old).mono ?_; rintro e w11 ⟨rfl, h3⟩; have H2 := H.call0 h3; clear H h3; have H := H2; clear H2; have tok10 : True := trivial)
    | (clear tok10; refine st_val rfl (rn_cell rfl rfl rfl rfl (by have h := (P9.out.mv H).old; exact bytes_cellV0 h.1 hzg.out)) ?_; have tok11 : True := trivial)
    | (clear tok11; refine st_storeB (i := n1) (z := bits .xor .u8 z x1) rfl ((P9.out.mv H).use (HW9.out.trans H) hB2.out (by simp)) rfl rfl rfl (by kernel_rfl) hi1.out ?_; intro w12 cs9 G E; rw [hys'.out] at E; have HW := Lib.hid E.own0; have P2 := Lib.hid (show Old w12 (.slice (some ⟨gp, 0, none⟩) 56 cp) ys from ⟨E.bytesAt, E.lt⟩); have S2 := Lib.hid (((S9.out.mv H).old).mv1 G (fun k hk => by obtain rfl := (blk_some hk).1; show gs ≠ gp; omega)); have M2 := Lib.hid (Old.mv1 ⟨(M9.out.call0 H).bytesAt, (M9.out.call0 H).lt⟩ G (fun k hk => by have := M9.out.new k hk; omega)); clear E G H; have H := Own.refl w12; have tok12 : True := trivial)
    | (clear tok12; go_at_call 8; refine (hto.out _).mono ?_; rintro e w21 ⟨rfl, h3⟩; have H2 := H.call0 h3; clear H h3; have H := H2; clear H2; have tok13 : True := trivial)
    | (clear tok13; go_at_call 18; refine (hv2.out _ _ _ _ (P2.out.mv H (by simp)) (M2.out.mv H (by simp)) (S2.out.mv H (by simp))).mono ?_; rintro e w22 ⟨rfl, h3⟩; have H2 := H.call0 h3; clear H h3; have H := H2; clear H2; have tok14 : True := trivial)
    | (clear tok14; go_at_call 20; refine (hr2.out _ _ _ _ (P2.out.mv H (by simp)) (M2.out.mv H (by simp)) (S2.out.mv H (by simp))).mono ?_; rintro e w23 ⟨rfl, h3⟩; have H2 := H.call0 h3; clear H h3; have H := H2; clear H2; have tok15 : True := trivial)
    | (clear tok15; go_at_call 19; refine (hf2.out _ _ (P2.out.mv H (by simp))).mono ?_; rintro e w24 ⟨rfl, h3⟩; have H2 := H.call0 h3; clear H h3; have H := H2; clear H2; have tok16 : True := trivial)
    | (clear tok16; go_at_call 21; refine (hg2.out _ _ (P2.out.mv H (by simp))).mono ?_; rintro e w25 ⟨rfl, h3⟩; have H2 := H.call0 h3; clear H h3; have H := H2; clear H2; have tok17 : True := trivial))
  have HE := Lib.hid (HW.out.trans H)
  clear H
  go_ret
  exact ⟨rfl, HE.out⟩

set_option maxRecDepth 100000 in
set_option maxHeartbeats 8000000 in
theorem lmsVerifies_1 (w : World) (id seed : List Int) (h16 : id.length = 16) (h32 : seed.length = 32) (hidb : IsBytes id) (q0 t0 at0 x1 : Int) (hx1 : 0 ≤ x1 ∧ x1 < 256) (pm : Option Addr) (n cm : Nat) (msg : List Int) (hO : Old w (.slice pm n cm) msg) (hmb : IsBytes msg) (hn : n = msg.length) (hn5 : n ≤ 100) (hwe : wrap64 ((IntKind.u64.wrap t0).tmod 5) = 1) :
    Calls Tryz.prog 4 #[.agg (u8s (id ++ seed)).toArray, .int .i64 q0, .slice pm n cm, .int .i64 t0, .int .i64 at0, .int .u8 x1] w fun e w' => e = .returned (.bool true) ∧ Own w w' [] := by
  have H := Own.refl w
  have hto := Lib.hid ltold_any
  have _ := hx1
  have h48 : (id ++ seed).length = 48 := by rw [List.length_append, h16, h32]
  have hsz48 := Lib.hid (size_secretL h16 h32)
  obtain ⟨p, hpe, hp⟩ := rem_wrap q0 32 (by omega) (by omega)
  have hp32 : p < 32 := by omega
  have hnw : Hid (∀ w', Calls Tryz.prog 9 #[.agg (u8s (id ++ seed)).toArray, .int .i64 2] w' fun e w'' => ∃ b, e = .returned (.tuple #[.pointer (some ⟨b, 0, none⟩), .int .i64 0]) ∧ w'.heap.size ≤ b ∧ Own w' w'' [(b, treeG (id ++ seed) 2 0 0 (List.replicate 2048 0) 0, 74)]) := fun w' => lnew_any w' (id ++ seed) h48 2 (by omega)
  have hsg : Hid (∀ w' b, Own w' w' [(b, treeG (id ++ seed) 2 0 0 (List.replicate 2048 0) 0, 74)] → Old w' (.slice pm n cm) msg → (∀ k, blk (Value.slice pm n cm) = some k → k ≠ b) → Calls Tryz.prog 15 #[.pointer (some ⟨b, 0, none⟩), .int .i64 p, .slice pm n cm] w' fun e w'' => ∃ g c, e = .returned (.tuple #[.slice (some ⟨g, 0, none⟩) 4460 c, .int .i64 0]) ∧ 4460 ≤ c ∧ w'.heap.size ≤ g ∧ g < w''.heap.size ∧ BufR w'.heap.size (lsigOf id seed 2 p msg) w'' (.slice (some ⟨g, 0, none⟩) 4460 c) ∧ Own w' w'' [(b, fullT id seed 2, 74)]) := fun w' b h1 h2 h4 =>
    signA_any w' b id seed h16 h32 2 (by omega) _ (Or.inl rfl) p hp32 _ msg h2 hmb (by omega) h1 h4 rfl
  have hpu : Hid (∀ w' b, TreeAt w' b id seed 2 → Calls Tryz.prog 12 #[.pointer (some ⟨b, 0, none⟩)] w' fun e w'' => ∃ g c, e = .returned (.slice (some ⟨g, 0, none⟩) 56 c) ∧ 56 ≤ c ∧ w'.heap.size ≤ g ∧ g < w''.heap.size ∧ BufR w'.heap.size (pubL id seed 2) w'' (.slice (some ⟨g, 0, none⟩) 56 c) ∧ Own w' w'' []) := fun w' b h => lpubA_any w' b id seed h16 h32 2 (by omega) h
  have v1 := ver_sig h16 seed (k := 2) (by omega) hp32 msg
  have hsab := isBytes_lsig id seed 2 p msg
  have hsal : Hid ((lsigOf id seed 2 p msg).length = 4460) := length_lsigOf id seed 2 p msg
  have hpbb := isBytes_pubL hidb seed 2
  have hwd2 := width_pubL h16 seed (k := 2) (by omega)
  have hpbl : Hid ((pubL id seed 2).length = 56) := length_pubL h16 seed 2
  have hnl : Hid (msg.length = n) := hn.symm
  obtain ⟨sa, hsa0⟩ : ∃ s, s = lsigOf id seed 2 p msg := ⟨_, rfl⟩
  obtain ⟨pb, hpb0⟩ : ∃ s, s = pubL id seed 2 := ⟨_, rfl⟩
  rw [← hsa0] at hsg v1 hsab hsal
  rw [← hpb0] at hpu v1 hpbb hpbl hwd2
  have hsal9 : sa.length ≤ 1000000 := by rw [hsal.out]; omega
  have hpbl9 : pb.length ≤ 1000000 := by rw [hpbl.out]; omega
  have hfo : Hid (∀ w' v, Old w' v pb → Calls Tryz.prog 19 #[v] w' fun e w'' => e = .returned (.bool true) ∧ Own w' w'' []) := fun w' v h => by
    have h1 := form_any w' v pb h hpbb hpbl9
    rw [hwd2] at h1
    exact h1
  have hv1 : Hid (∀ w' v u t, Old w' v pb → Old w' u msg → Old w' t sa → Calls Tryz.prog 18 #[v, u, t] w' fun e w'' => e = .returned (.int .i64 (verL pb msg sa)) ∧ Own w' w'' []) := fun w' v u t h1 h2 h3 => ver_any w' v u t pb msg sa h1 hpbb hpbl9 h2 hmb (by omega) h3 hsab hsal9
  rw [v1] at hv1
  obtain ⟨mx, hmx⟩ : ∃ m, m = msg ++ [x1] := ⟨_, rfl⟩
  have hmxb : IsBytes mx := by rw [hmx]; exact isBytes_app hmb (isBytes_mem.2 fun z hz => by rw [List.mem_singleton] at hz; rw [hz]; exact hx1)
  have hmxl : mx.length ≤ 101 := by rw [hmx, List.length_append, ← hn, List.length_singleton]; omega
  have hmx' := Lib.hid hmx.symm
  have hv2 : Hid (∀ w' v u t, Old w' v pb → Old w' u mx → Old w' t sa → Calls Tryz.prog 18 #[v, u, t] w' fun e w'' => e = .returned (.int .i64 (verL pb mx sa)) ∧ Own w' w'' []) := fun w' v u t h1 h2 h3 => ver_any w' v u t pb mx sa h1 hpbb hpbl9 h2 hmxb (by omega) h3 hsab hsal9
  have hr2 : Hid (∀ w' v u t, Old w' v pb → Old w' u mx → Old w' t sa → Calls Tryz.prog 20 #[v, u, t] w' fun e w'' => e = .returned (.int .i64 (verL pb mx sa)) ∧ Own w' w'' []) := fun w' v u t h1 h2 h3 => rver_any w' v u t pb mx sa h1 hpbb h2 hmxb (by omega) h3 hsab
  have hf2 : Hid (∀ w' v, Old w' v pb → Calls Tryz.prog 19 #[v] w' fun e w'' => e = .returned (.bool (decide (0 < widthL pb))) ∧ Own w' w'' []) := fun w' v h => form_any w' v pb h hpbb hpbl9
  have hg2 : Hid (∀ w' v, Old w' v pb → Calls Tryz.prog 21 #[v] w' fun e w'' => e = .returned (.bool (decide (0 < widthL pb))) ∧ Own w' w'' []) := fun w' v h => rform_any w' v pb h hpbb
  obtain ⟨V, hV⟩ : ∃ V, V = verL pb mx sa := ⟨_, rfl⟩
  obtain ⟨B, hB⟩ : ∃ B, B = decide (0 < widthL pb) := ⟨_, rfl⟩
  rw [← hV] at hv2 hr2
  rw [← hB] at hf2 hg2
  have hOw := Lib.hid hO
  clear hO hmb hn h16 h32 h48 hidb v1 hsab hsal9 hpbb hwd2 hpbl9 hsa0 hpb0 hV hB hp hmx hmxb hmxl
  go_enter Tryz.func4, Tryz.ntmps4
  have tok1 : True := trivial
  go_wp2_with (first
    | (clear tok1; refine st_new rfl (rn_box (cs := u8s (id ++ seed)) H rfl rfl rfl) ?_; clear H; intro b7 w1 hb7 H; have tok2 : True := trivial)
    | (clear tok2; refine st_val rfl (rn_loadAll (cs := u8s (id ++ seed)) H rfl rfl (.head _) rfl rfl hsz48.out) ?_; have tok3 : True := trivial)
    | (clear tok3; go_at_call 9; refine (hnw.out _).mono ?_; rintro e w2 ⟨bt, rfl, hbt, h3⟩; have hbt0 := Nat.le_trans H.size hbt; have H2 := H.callNew h3 hbt; have M2 := Lib.hid (hOw.out.mv H2 (by simp; omega)); have MN : ∀ k, blk (Value.slice pm n cm) = some k → k ≠ bt := (fun k hk => by have := hOw.out.2 k hk; omega); clear H h3; have H := H2; clear H2; have tok4 : True := trivial)
    | (clear tok4; go_at_call 15; refine (hsg.out _ bt (H.sub1 (.head _)) M2.out MN).mono ?_; rintro e w5 ⟨gs, cs, rfl, hcs, hgs, hgs5, hA, h3⟩; have hgs0 := Nat.le_trans H.size hgs; have hB1 := Lib.hid H.size; have H2 := Own.next (L := [_]) H h3 rfl; have S5 := Lib.hid hA; have T5 := Lib.hid (TreeAt.of h3); have HW := Lib.hid (H2.end0 (by simp; omega)); have M5 := Lib.hid (M2.out.mv1 h3 MN); clear H h3 hA MN M2 H2; have H := Own.refl w5; have tok5 : True := trivial)
    | (clear tok5; go_at_call 12; refine (hpu.out _ bt T5.out).mono ?_; rintro e w7 ⟨gp, cp, rfl, hcp, hgp, hgp7, hP, h3⟩; have hgp0 := Nat.le_trans HW.out.size hgp; have P7 := Lib.hid hP; have HW7 := Lib.hid (HW.out.trans h3); have S7 := Lib.hid (S5.out.mv h3); have M7 := Lib.hid (M5.out.mv h3 (by simp)); have hB2 := Lib.hid HW.out.size; clear H h3 hP HW S5 M5 T5; have H := Own.refl w7; have tok6 : True := trivial)
    | (clear tok6; refine st_new rfl (rn_buildSlice (e := 5) (cs := []) H rfl (fun w' => by kernel_rfl)) ?_; clear H; intro b5 w8 hb5 M; have E := BufV.lit (n := 0) (sz := 1) M hb5 rfl (by omega); have M8 := Lib.hid (M7.out.mv E.own0 (by simp)); clear M hb5; have tok7 : True := trivial)
    | (clear tok7; refine st_appV rfl E elem_u8 rfl rfl rfl rfl (m := n) (ds := u8s msg) (by have h := M8.out.1; rw [BytesAt, hnl.out] at h; exact h) (by rw [length_ints, Nat.mul_one]; exact hnl.out) (oneCell_ints _ _) (by omega) (by omega) ?_; clear E M8; intro p6 c6 w9 E; rw [List.nil_append, Nat.zero_add] at E; rw [Nat.zero_add]; have M9 : Hid (Buf 5 .u8 w7 w9 [] (.slice p6 n c6) msg) := (by show Buf _ _ _ _ _ _ _; unfold Buf; rw [hnl.out]; exact E); have HW9 := Lib.hid (HW7.out.trans E.own0); have P9 := Lib.hid (P7.out.mv E.own0); have S9 := Lib.hid (S7.out.mv E.own0); have h79 := Lib.hid E.own0; have hB3 := Lib.hid HW7.out.size; have HW7b := HW7; clear E M7 HW7; have H := Own.refl w9; have tok8 : True := trivial)
    | (clear tok8; go_at_call 18; refine (hv1.out _ _ _ _ (P9.out.mv H).old ⟨(M9.out.call0 H).bytesAt, (M9.out.call0 H).lt⟩ (S9.out.mv H).old).mono ?_; rintro e w10 ⟨rfl, h3⟩; have H2 := H.call0 h3; clear H h3; have H := H2; clear H2; have tok9 : True := trivial)
    | (clear tok9; go_at_call 19; refine (hfo.out _ _ (P9.out.mv H).old).mono ?_; rintro e w11 ⟨rfl, h3⟩; have H2 := H.call0 h3; clear H h3; have H := H2; clear H2; have tok10 : True := trivial)
    | (clear tok10; refine st_lit rfl (M9.out.call0 H) rfl (cs := u8s [x1]) (el := 5) (fun w' => by kernel_rfl) ?_; clear H; intro b2 w12 hb2 E; have tok11 : True := trivial)
    | (clear tok11; refine st_app (ys := [x1]) rfl E elem_u8 rfl rfl rfl rfl (E.litAt (.head _) rfl) (by rw [hnl.out]; simp; omega) (by rw [hnl.out]; simp; omega) ?_; clear E; intro p13 c13 w13 E; rw [hmx'.out] at E; have E2 := E.pop hb2; have G := E2.own0; have M2 := Lib.hid (Old.intro E2.bytesAt E2.lt); have S2 := Lib.hid ((S7.out.mv G).old); have P2 := Lib.hid ((P7.out.mv G).old); have HW := Lib.hid (HW7b.out.trans G); clear E E2 G; have H := Own.refl w13; have tok12 : True := trivial)
    | (clear tok12; go_at_call 8; refine (hto.out _).mono ?_; rintro e w21 ⟨rfl, h3⟩; have H2 := H.call0 h3; clear H h3; have H := H2; clear H2; have tok13 : True := trivial)
    | (clear tok13; go_at_call 18; refine (hv2.out _ _ _ _ (P2.out.mv H (by simp)) (M2.out.mv H (by simp)) (S2.out.mv H (by simp))).mono ?_; rintro e w22 ⟨rfl, h3⟩; have H2 := H.call0 h3; clear H h3; have H := H2; clear H2; have tok14 : True := trivial)
    | (clear tok14; go_at_call 20; refine (hr2.out _ _ _ _ (P2.out.mv H (by simp)) (M2.out.mv H (by simp)) (S2.out.mv H (by simp))).mono ?_; rintro e w23 ⟨rfl, h3⟩; have H2 := H.call0 h3; clear H h3; have H := H2; clear H2; have tok15 : True := trivial)
    | (clear tok15; go_at_call 19; refine (hf2.out _ _ (P2.out.mv H (by simp))).mono ?_; rintro e w24 ⟨rfl, h3⟩; have H2 := H.call0 h3; clear H h3; have H := H2; clear H2; have tok16 : True := trivial)
    | (clear tok16; go_at_call 21; refine (hg2.out _ _ (P2.out.mv H (by simp))).mono ?_; rintro e w25 ⟨rfl, h3⟩; have H2 := H.call0 h3; clear H h3; have H := H2; clear H2; have tok17 : True := trivial))
  have HE := Lib.hid (HW.out.trans H)
  clear H
  go_ret
  exact ⟨rfl, HE.out⟩

set_option maxRecDepth 100000 in
set_option maxHeartbeats 8000000 in
theorem lmsVerifies_2 (w : World) (id seed : List Int) (h16 : id.length = 16) (h32 : seed.length = 32) (hidb : IsBytes id) (q0 t0 at0 x1 : Int) (hx1 : 0 ≤ x1 ∧ x1 < 256) (pm : Option Addr) (n cm : Nat) (msg : List Int) (hO : Old w (.slice pm n cm) msg) (hmb : IsBytes msg) (hn : n = msg.length) (hn5 : n ≤ 100) (hwe : wrap64 ((IntKind.u64.wrap t0).tmod 5) = 2) :
    Calls Tryz.prog 4 #[.agg (u8s (id ++ seed)).toArray, .int .i64 q0, .slice pm n cm, .int .i64 t0, .int .i64 at0, .int .u8 x1] w fun e w' => e = .returned (.bool true) ∧ Own w w' [] := by
  have H := Own.refl w
  have hto := Lib.hid ltold_any
  have _ := hx1
  have h48 : (id ++ seed).length = 48 := by rw [List.length_append, h16, h32]
  have hsz48 := Lib.hid (size_secretL h16 h32)
  obtain ⟨p, hpe, hp⟩ := rem_wrap q0 32 (by omega) (by omega)
  have hp32 : p < 32 := by omega
  have hnw : Hid (∀ w', Calls Tryz.prog 9 #[.agg (u8s (id ++ seed)).toArray, .int .i64 2] w' fun e w'' => ∃ b, e = .returned (.tuple #[.pointer (some ⟨b, 0, none⟩), .int .i64 0]) ∧ w'.heap.size ≤ b ∧ Own w' w'' [(b, treeG (id ++ seed) 2 0 0 (List.replicate 2048 0) 0, 74)]) := fun w' => lnew_any w' (id ++ seed) h48 2 (by omega)
  have hsg : Hid (∀ w' b, Own w' w' [(b, treeG (id ++ seed) 2 0 0 (List.replicate 2048 0) 0, 74)] → Old w' (.slice pm n cm) msg → (∀ k, blk (Value.slice pm n cm) = some k → k ≠ b) → Calls Tryz.prog 15 #[.pointer (some ⟨b, 0, none⟩), .int .i64 p, .slice pm n cm] w' fun e w'' => ∃ g c, e = .returned (.tuple #[.slice (some ⟨g, 0, none⟩) 4460 c, .int .i64 0]) ∧ 4460 ≤ c ∧ w'.heap.size ≤ g ∧ g < w''.heap.size ∧ BufR w'.heap.size (lsigOf id seed 2 p msg) w'' (.slice (some ⟨g, 0, none⟩) 4460 c) ∧ Own w' w'' [(b, fullT id seed 2, 74)]) := fun w' b h1 h2 h4 =>
    signA_any w' b id seed h16 h32 2 (by omega) _ (Or.inl rfl) p hp32 _ msg h2 hmb (by omega) h1 h4 rfl
  have hpu : Hid (∀ w' b, TreeAt w' b id seed 2 → Calls Tryz.prog 12 #[.pointer (some ⟨b, 0, none⟩)] w' fun e w'' => ∃ g c, e = .returned (.slice (some ⟨g, 0, none⟩) 56 c) ∧ 56 ≤ c ∧ w'.heap.size ≤ g ∧ g < w''.heap.size ∧ BufR w'.heap.size (pubL id seed 2) w'' (.slice (some ⟨g, 0, none⟩) 56 c) ∧ Own w' w'' []) := fun w' b h => lpubA_any w' b id seed h16 h32 2 (by omega) h
  have v1 := ver_sig h16 seed (k := 2) (by omega) hp32 msg
  have hsab := isBytes_lsig id seed 2 p msg
  have hsal : Hid ((lsigOf id seed 2 p msg).length = 4460) := length_lsigOf id seed 2 p msg
  have hpbb := isBytes_pubL hidb seed 2
  have hwd2 := width_pubL h16 seed (k := 2) (by omega)
  have hpbl : Hid ((pubL id seed 2).length = 56) := length_pubL h16 seed 2
  have hnl : Hid (msg.length = n) := hn.symm
  obtain ⟨sa, hsa0⟩ : ∃ s, s = lsigOf id seed 2 p msg := ⟨_, rfl⟩
  obtain ⟨pb, hpb0⟩ : ∃ s, s = pubL id seed 2 := ⟨_, rfl⟩
  rw [← hsa0] at hsg v1 hsab hsal
  rw [← hpb0] at hpu v1 hpbb hpbl hwd2
  have hsal9 : sa.length ≤ 1000000 := by rw [hsal.out]; omega
  have hpbl9 : pb.length ≤ 1000000 := by rw [hpbl.out]; omega
  have hfo : Hid (∀ w' v, Old w' v pb → Calls Tryz.prog 19 #[v] w' fun e w'' => e = .returned (.bool true) ∧ Own w' w'' []) := fun w' v h => by
    have h1 := form_any w' v pb h hpbb hpbl9
    rw [hwd2] at h1
    exact h1
  have hv1 : Hid (∀ w' v u t, Old w' v pb → Old w' u msg → Old w' t sa → Calls Tryz.prog 18 #[v, u, t] w' fun e w'' => e = .returned (.int .i64 (verL pb msg sa)) ∧ Own w' w'' []) := fun w' v u t h1 h2 h3 => ver_any w' v u t pb msg sa h1 hpbb hpbl9 h2 hmb (by omega) h3 hsab hsal9
  rw [v1] at hv1
  obtain ⟨n1, hn1, hn1l⟩ := rem_wrap at0 4460 (by omega) (by omega)
  have hn1l' : n1 < 4460 := by omega
  obtain ⟨z, hz⟩ : ∃ z, sa[n1]?.getD 0 = z := ⟨_, rfl⟩
  have hz0 : Hid (0 ≤ z ∧ z < 256) := by have := hsab n1 (by rw [hsal.out]; exact hn1l'); rw [hz] at this; exact this
  have hzg : Hid ((u8s sa)[n1]? = some (.int .u8 z)) := by show _ = _; rw [← hz]; exact ints_get (by rw [hsal.out]; exact hn1l')
  obtain ⟨ys, hys⟩ : ∃ ys, sa.set n1 (bits .xor .u8 z x1) = ys := ⟨_, rfl⟩
  have hys' := Lib.hid hys
  have hyl : Hid (ys.length = 4460) := by show _ = _; rw [← hys, List.length_set, hsal.out]
  have hyl9 : ys.length ≤ 1000000 := by rw [hyl.out]; omega
  have hyb : IsBytes ys := by rw [← hys]; exact isBytes_set4 hsab (xor_facts4 hz0.out hx1)
  have hi1 : Hid (n1 < sa.length) := by show _ < _; rw [hsal.out]; exact hn1l'
  have hv2 : Hid (∀ w' v u t, Old w' v pb → Old w' u msg → Old w' t ys → Calls Tryz.prog 18 #[v, u, t] w' fun e w'' => e = .returned (.int .i64 (verL pb msg ys)) ∧ Own w' w'' []) := fun w' v u t h1 h2 h3 => ver_any w' v u t pb msg ys h1 hpbb hpbl9 h2 hmb (by omega) h3 hyb hyl9
  have hr2 : Hid (∀ w' v u t, Old w' v pb → Old w' u msg → Old w' t ys → Calls Tryz.prog 20 #[v, u, t] w' fun e w'' => e = .returned (.int .i64 (verL pb msg ys)) ∧ Own w' w'' []) := fun w' v u t h1 h2 h3 => rver_any w' v u t pb msg ys h1 hpbb h2 hmb (by omega) h3 hyb
  have hf2 : Hid (∀ w' v, Old w' v pb → Calls Tryz.prog 19 #[v] w' fun e w'' => e = .returned (.bool (decide (0 < widthL pb))) ∧ Own w' w'' []) := fun w' v h => form_any w' v pb h hpbb hpbl9
  have hg2 : Hid (∀ w' v, Old w' v pb → Calls Tryz.prog 21 #[v] w' fun e w'' => e = .returned (.bool (decide (0 < widthL pb))) ∧ Own w' w'' []) := fun w' v h => rform_any w' v pb h hpbb
  obtain ⟨V, hV⟩ : ∃ V, V = verL pb msg ys := ⟨_, rfl⟩
  obtain ⟨B, hB⟩ : ∃ B, B = decide (0 < widthL pb) := ⟨_, rfl⟩
  rw [← hV] at hv2 hr2
  rw [← hB] at hf2 hg2
  have hOw := Lib.hid hO
  clear hO hmb hn h16 h32 h48 hidb v1 hsab hsal9 hpbb hwd2 hpbl9 hsa0 hpb0 hV hB hp hz hys hyl9 hyb hn1l
  go_enter Tryz.func4, Tryz.ntmps4
  have tok1 : True := trivial
  go_wp2_with (first
    | (clear tok1; refine st_new rfl (rn_box (cs := u8s (id ++ seed)) H rfl rfl rfl) ?_; clear H; intro b7 w1 hb7 H; have tok2 : True := trivial)
    | (clear tok2; refine st_val rfl (rn_loadAll (cs := u8s (id ++ seed)) H rfl rfl (.head _) rfl rfl hsz48.out) ?_; have tok3 : True := trivial)
    | (clear tok3; go_at_call 9; refine (hnw.out _).mono ?_; rintro e w2 ⟨bt, rfl, hbt, h3⟩; have hbt0 := Nat.le_trans H.size hbt; have H2 := H.callNew h3 hbt; have M2 := Lib.hid (hOw.out.mv H2 (by simp; omega)); have MN : ∀ k, blk (Value.slice pm n cm) = some k → k ≠ bt := (fun k hk => by have := hOw.out.2 k hk; omega); clear H h3; have H := H2; clear H2; have tok4 : True := trivial)
    | (clear tok4; go_at_call 15; refine (hsg.out _ bt (H.sub1 (.head _)) M2.out MN).mono ?_; rintro e w5 ⟨gs, cs, rfl, hcs, hgs, hgs5, hA, h3⟩; have hgs0 := Nat.le_trans H.size hgs; have hB1 := Lib.hid H.size; have H2 := Own.next (L := [_]) H h3 rfl; have S5 := Lib.hid hA; have T5 := Lib.hid (TreeAt.of h3); have HW := Lib.hid (H2.end0 (by simp; omega)); have M5 := Lib.hid (M2.out.mv1 h3 MN); clear H h3 hA MN M2 H2; have H := Own.refl w5; have tok5 : True := trivial)
    | (clear tok5; go_at_call 12; refine (hpu.out _ bt T5.out).mono ?_; rintro e w7 ⟨gp, cp, rfl, hcp, hgp, hgp7, hP, h3⟩; have hgp0 := Nat.le_trans HW.out.size hgp; have P7 := Lib.hid hP; have HW7 := Lib.hid (HW.out.trans h3); have S7 := Lib.hid (S5.out.mv h3); have M7 := Lib.hid (M5.out.mv h3 (by simp)); have hB2 := Lib.hid HW.out.size; clear H h3 hP HW S5 M5 T5; have H := Own.refl w7; have tok6 : True := trivial)
    | (clear tok6; refine st_new rfl (rn_buildSlice (e := 5) (cs := []) H rfl (fun w' => by kernel_rfl)) ?_; clear H; intro b5 w8 hb5 M; have E := BufV.lit (n := 0) (sz := 1) M hb5 rfl (by omega); have M8 := Lib.hid (M7.out.mv E.own0 (by simp)); clear M hb5; have tok7 : True := trivial)
    | (clear tok7; refine st_appV rfl E elem_u8 rfl rfl rfl rfl (m := n) (ds := u8s msg) (by have h := M8.out.1; rw [BytesAt, hnl.out] at h; exact h) (by rw [length_ints, Nat.mul_one]; exact hnl.out) (oneCell_ints _ _) (by omega) (by omega) ?_; clear E M8; intro p6 c6 w9 E; rw [List.nil_append, Nat.zero_add] at E; rw [Nat.zero_add]; have M9 : Hid (Buf 5 .u8 w7 w9 [] (.slice p6 n c6) msg) := (by show Buf _ _ _ _ _ _ _; unfold Buf; rw [hnl.out]; exact E); have HW9 := Lib.hid (HW7.out.trans E.own0); have P9 := Lib.hid (P7.out.mv E.own0); have S9 := Lib.hid (S7.out.mv E.own0); have h79 := Lib.hid E.own0; have hB3 := Lib.hid HW7.out.size; clear E M7 HW7; have H := Own.refl w9; have tok8 : True := trivial)
    | (clear tok8; go_at_call 18; refine (hv1.out _ _ _ _ (P9.out.mv H).old ⟨(M9.out.call0 H).bytesAt, (M9.out.call0 H).lt⟩ (S9.out.mv H).old).mono ?_; rintro e w10 ⟨rfl, h3⟩; have H2 := H.call0 h3; clear H h3; have H := H2; clear H2; have tok9 : True := trivial)
    | (clear tok9; go_at_call 19; refine (hfo.out _ _ (P9.out.mv H).old).mono ?_; rintro e w11 ⟨rfl, h3⟩; have H2 := H.call0 h3; clear H h3; have H := H2; clear H2; have tok10 : True := trivial)
    | (clear tok10; refine st_val rfl (rn_cell rfl rfl rfl rfl (by have h := (S9.out.mv H).old; exact bytes_cellV0 h.1 hzg.out)) ?_; have tok11 : True := trivial)
    | (clear tok11; refine st_storeB (i := n1) (z := bits .xor .u8 z x1) rfl ((S9.out.mv H).use (HW9.out.trans H) hB1.out (by simp)) rfl rfl rfl (by kernel_rfl) hi1.out ?_; intro w12 cs9 G E; rw [hys'.out] at E; have HW := Lib.hid E.own0; have S2 := Lib.hid (show Old w12 (.slice (some ⟨gs, 0, none⟩) 4460 cs) ys from ⟨E.bytesAt, E.lt⟩); have P2 := Lib.hid (((P9.out.mv H).old).mv1 G (fun k hk => by obtain rfl := (blk_some hk).1; show gp ≠ gs; omega)); have M2 := Lib.hid (Old.mv1 ⟨(M9.out.call0 H).bytesAt, (M9.out.call0 H).lt⟩ G (fun k hk => by have := M9.out.new k hk; omega)); clear E G H; have H := Own.refl w12; have tok12 : True := trivial)
    | (clear tok12; go_at_call 8; refine (hto.out _).mono ?_; rintro e w21 ⟨rfl, h3⟩; have H2 := H.call0 h3; clear H h3; have H := H2; clear H2; have tok13 : True := trivial)
    | (clear tok13; go_at_call 18; refine (hv2.out _ _ _ _ (P2.out.mv H (by simp)) (M2.out.mv H (by simp)) (S2.out.mv H (by simp))).mono ?_; rintro e w22 ⟨rfl, h3⟩; have H2 := H.call0 h3; clear H h3; have H := H2; clear H2; have tok14 : True := trivial)
    | (clear tok14; go_at_call 20; refine (hr2.out _ _ _ _ (P2.out.mv H (by simp)) (M2.out.mv H (by simp)) (S2.out.mv H (by simp))).mono ?_; rintro e w23 ⟨rfl, h3⟩; have H2 := H.call0 h3; clear H h3; have H := H2; clear H2; have tok15 : True := trivial)
    | (clear tok15; go_at_call 19; refine (hf2.out _ _ (P2.out.mv H (by simp))).mono ?_; rintro e w24 ⟨rfl, h3⟩; have H2 := H.call0 h3; clear H h3; have H := H2; clear H2; have tok16 : True := trivial)
    | (clear tok16; go_at_call 21; refine (hg2.out _ _ (P2.out.mv H (by simp))).mono ?_; rintro e w25 ⟨rfl, h3⟩; have H2 := H.call0 h3; clear H h3; have H := H2; clear H2; have tok17 : True := trivial))
  have HE := Lib.hid (HW.out.trans H)
  clear H
  go_ret
  exact ⟨rfl, HE.out⟩

set_option maxRecDepth 100000 in
set_option maxHeartbeats 8000000 in
theorem lmsVerifies_3 (w : World) (id seed : List Int) (h16 : id.length = 16) (h32 : seed.length = 32) (hidb : IsBytes id) (q0 t0 at0 x1 : Int) (hx1 : 0 ≤ x1 ∧ x1 < 256) (pm : Option Addr) (n cm : Nat) (msg : List Int) (hO : Old w (.slice pm n cm) msg) (hmb : IsBytes msg) (hn : n = msg.length) (hn5 : n ≤ 100) (hwe : wrap64 ((IntKind.u64.wrap t0).tmod 5) = 3) :
    Calls Tryz.prog 4 #[.agg (u8s (id ++ seed)).toArray, .int .i64 q0, .slice pm n cm, .int .i64 t0, .int .i64 at0, .int .u8 x1] w fun e w' => e = .returned (.bool true) ∧ Own w w' [] := by
  have H := Own.refl w
  have hto := Lib.hid ltold_any
  have _ := hx1
  have h48 : (id ++ seed).length = 48 := by rw [List.length_append, h16, h32]
  have hsz48 := Lib.hid (size_secretL h16 h32)
  obtain ⟨p, hpe, hp⟩ := rem_wrap q0 32 (by omega) (by omega)
  have hp32 : p < 32 := by omega
  have hnw : Hid (∀ w', Calls Tryz.prog 9 #[.agg (u8s (id ++ seed)).toArray, .int .i64 2] w' fun e w'' => ∃ b, e = .returned (.tuple #[.pointer (some ⟨b, 0, none⟩), .int .i64 0]) ∧ w'.heap.size ≤ b ∧ Own w' w'' [(b, treeG (id ++ seed) 2 0 0 (List.replicate 2048 0) 0, 74)]) := fun w' => lnew_any w' (id ++ seed) h48 2 (by omega)
  have hsg : Hid (∀ w' b, Own w' w' [(b, treeG (id ++ seed) 2 0 0 (List.replicate 2048 0) 0, 74)] → Old w' (.slice pm n cm) msg → (∀ k, blk (Value.slice pm n cm) = some k → k ≠ b) → Calls Tryz.prog 15 #[.pointer (some ⟨b, 0, none⟩), .int .i64 p, .slice pm n cm] w' fun e w'' => ∃ g c, e = .returned (.tuple #[.slice (some ⟨g, 0, none⟩) 4460 c, .int .i64 0]) ∧ 4460 ≤ c ∧ w'.heap.size ≤ g ∧ g < w''.heap.size ∧ BufR w'.heap.size (lsigOf id seed 2 p msg) w'' (.slice (some ⟨g, 0, none⟩) 4460 c) ∧ Own w' w'' [(b, fullT id seed 2, 74)]) := fun w' b h1 h2 h4 =>
    signA_any w' b id seed h16 h32 2 (by omega) _ (Or.inl rfl) p hp32 _ msg h2 hmb (by omega) h1 h4 rfl
  have hpu : Hid (∀ w' b, TreeAt w' b id seed 2 → Calls Tryz.prog 12 #[.pointer (some ⟨b, 0, none⟩)] w' fun e w'' => ∃ g c, e = .returned (.slice (some ⟨g, 0, none⟩) 56 c) ∧ 56 ≤ c ∧ w'.heap.size ≤ g ∧ g < w''.heap.size ∧ BufR w'.heap.size (pubL id seed 2) w'' (.slice (some ⟨g, 0, none⟩) 56 c) ∧ Own w' w'' []) := fun w' b h => lpubA_any w' b id seed h16 h32 2 (by omega) h
  have v1 := ver_sig h16 seed (k := 2) (by omega) hp32 msg
  have hsab := isBytes_lsig id seed 2 p msg
  have hsal : Hid ((lsigOf id seed 2 p msg).length = 4460) := length_lsigOf id seed 2 p msg
  have hpbb := isBytes_pubL hidb seed 2
  have hwd2 := width_pubL h16 seed (k := 2) (by omega)
  have hpbl : Hid ((pubL id seed 2).length = 56) := length_pubL h16 seed 2
  have hnl : Hid (msg.length = n) := hn.symm
  obtain ⟨sa, hsa0⟩ : ∃ s, s = lsigOf id seed 2 p msg := ⟨_, rfl⟩
  obtain ⟨pb, hpb0⟩ : ∃ s, s = pubL id seed 2 := ⟨_, rfl⟩
  rw [← hsa0] at hsg v1 hsab hsal
  rw [← hpb0] at hpu v1 hpbb hpbl hwd2
  have hsal9 : sa.length ≤ 1000000 := by rw [hsal.out]; omega
  have hpbl9 : pb.length ≤ 1000000 := by rw [hpbl.out]; omega
  have hfo : Hid (∀ w' v, Old w' v pb → Calls Tryz.prog 19 #[v] w' fun e w'' => e = .returned (.bool true) ∧ Own w' w'' []) := fun w' v h => by
    have h1 := form_any w' v pb h hpbb hpbl9
    rw [hwd2] at h1
    exact h1
  have hv1 : Hid (∀ w' v u t, Old w' v pb → Old w' u msg → Old w' t sa → Calls Tryz.prog 18 #[v, u, t] w' fun e w'' => e = .returned (.int .i64 (verL pb msg sa)) ∧ Own w' w'' []) := fun w' v u t h1 h2 h3 => ver_any w' v u t pb msg sa h1 hpbb hpbl9 h2 hmb (by omega) h3 hsab hsal9
  rw [v1] at hv1
  obtain ⟨n1, hn1, hn1l⟩ := rem_wrap at0 4460 (by omega) (by omega)
  have hn1l' : n1 < 4460 := by omega
  obtain ⟨ct, hct⟩ : ∃ c, c = sa.take n1 := ⟨_, rfl⟩
  have hctl : ct.length = n1 := by rw [hct, List.length_take, hsal.out]; omega
  have hctb : IsBytes ct := by rw [hct]; exact isBytes_take hsab _
  have hct9 : ct.length ≤ 1000000 := by omega
  have hcto : Hid (∀ w' g o c, 4460 ≤ c → Old w' (.slice (some ⟨g, o, none⟩) 4460 c) sa → Old w' (.slice (some ⟨g, o, none⟩) n1 c) ct) := fun w' g o c h1 h2 => by
    rw [hct]
    exact h2.to hsal.out.symm (by omega) h1 (by omega)
  have hv2 : Hid (∀ w' v u t, Old w' v pb → Old w' u msg → Old w' t ct → Calls Tryz.prog 18 #[v, u, t] w' fun e w'' => e = .returned (.int .i64 (verL pb msg ct)) ∧ Own w' w'' []) := fun w' v u t h1 h2 h3 => ver_any w' v u t pb msg ct h1 hpbb hpbl9 h2 hmb (by omega) h3 hctb hct9
  have hr2 : Hid (∀ w' v u t, Old w' v pb → Old w' u msg → Old w' t ct → Calls Tryz.prog 20 #[v, u, t] w' fun e w'' => e = .returned (.int .i64 (verL pb msg ct)) ∧ Own w' w'' []) := fun w' v u t h1 h2 h3 => rver_any w' v u t pb msg ct h1 hpbb h2 hmb (by omega) h3 hctb
  have hf2 : Hid (∀ w' v, Old w' v pb → Calls Tryz.prog 19 #[v] w' fun e w'' => e = .returned (.bool (decide (0 < widthL pb))) ∧ Own w' w'' []) := fun w' v h => form_any w' v pb h hpbb hpbl9
  have hg2 : Hid (∀ w' v, Old w' v pb → Calls Tryz.prog 21 #[v] w' fun e w'' => e = .returned (.bool (decide (0 < widthL pb))) ∧ Own w' w'' []) := fun w' v h => rform_any w' v pb h hpbb
  obtain ⟨V, hV⟩ : ∃ V, V = verL pb msg ct := ⟨_, rfl⟩
  obtain ⟨B, hB⟩ : ∃ B, B = decide (0 < widthL pb) := ⟨_, rfl⟩
  rw [← hV] at hv2 hr2
  rw [← hB] at hf2 hg2
  have hOw := Lib.hid hO
  clear hO hmb hn h16 h32 h48 hidb v1 hsab hsal9 hpbb hwd2 hpbl9 hsa0 hpb0 hV hB hp hct hctl hctb hct9 hn1l
  go_enter Tryz.func4, Tryz.ntmps4
  have tok1 : True := trivial
  go_wp2_with (first
    | (clear tok1; refine st_new rfl (rn_box (cs := u8s (id ++ seed)) H rfl rfl rfl) ?_; clear H; intro b7 w1 hb7 H; have tok2 : True := trivial)
    | (clear tok2; refine st_val rfl (rn_loadAll (cs := u8s (id ++ seed)) H rfl rfl (.head _) rfl rfl hsz48.out) ?_; have tok3 : True := trivial)
    | (clear tok3; go_at_call 9; refine (hnw.out _).mono ?_; rintro e w2 ⟨bt, rfl, hbt, h3⟩; have hbt0 := Nat.le_trans H.size hbt; have H2 := H.callNew h3 hbt; have M2 := Lib.hid (hOw.out.mv H2 (by simp; omega)); have MN : ∀ k, blk (Value.slice pm n cm) = some k → k ≠ bt := (fun k hk => by have := hOw.out.2 k hk; omega); clear H h3; have H := H2; clear H2; have tok4 : True := trivial)
    | (clear tok4; go_at_call 15; refine (hsg.out _ bt (H.sub1 (.head _)) M2.out MN).mono ?_; rintro e w5 ⟨gs, cs, rfl, hcs, hgs, hgs5, hA, h3⟩; have hgs0 := Nat.le_trans H.size hgs; have hB1 := Lib.hid H.size; have H2 := Own.next (L := [_]) H h3 rfl; have S5 := Lib.hid hA; have T5 := Lib.hid (TreeAt.of h3); have HW := Lib.hid (H2.end0 (by simp; omega)); have M5 := Lib.hid (M2.out.mv1 h3 MN); clear H h3 hA MN M2 H2; have H := Own.refl w5; have tok5 : True := trivial)
    | (clear tok5; go_at_call 12; refine (hpu.out _ bt T5.out).mono ?_; rintro e w7 ⟨gp, cp, rfl, hcp, hgp, hgp7, hP, h3⟩; have hgp0 := Nat.le_trans HW.out.size hgp; have P7 := Lib.hid hP; have HW7 := Lib.hid (HW.out.trans h3); have S7 := Lib.hid (S5.out.mv h3); have M7 := Lib.hid (M5.out.mv h3 (by simp)); have hB2 := Lib.hid HW.out.size; clear H h3 hP HW S5 M5 T5; have H := Own.refl w7; have tok6 : True := trivial)
    | (clear tok6; refine st_new rfl (rn_buildSlice (e := 5) (cs := []) H rfl (fun w' => by kernel_rfl)) ?_; clear H; intro b5 w8 hb5 M; have E := BufV.lit (n := 0) (sz := 1) M hb5 rfl (by omega); have M8 := Lib.hid (M7.out.mv E.own0 (by simp)); clear M hb5; have tok7 : True := trivial)
    | (clear tok7; refine st_appV rfl E elem_u8 rfl rfl rfl rfl (m := n) (ds := u8s msg) (by have h := M8.out.1; rw [BytesAt, hnl.out] at h; exact h) (by rw [length_ints, Nat.mul_one]; exact hnl.out) (oneCell_ints _ _) (by omega) (by omega) ?_; clear E M8; intro p6 c6 w9 E; rw [List.nil_append, Nat.zero_add] at E; rw [Nat.zero_add]; have M9 : Hid (Buf 5 .u8 w7 w9 [] (.slice p6 n c6) msg) := (by show Buf _ _ _ _ _ _ _; unfold Buf; rw [hnl.out]; exact E); have HW9 := Lib.hid (HW7.out.trans E.own0); have P9 := Lib.hid (P7.out.mv E.own0); have S9 := Lib.hid (S7.out.mv E.own0); have h79 := Lib.hid E.own0; have hB3 := Lib.hid HW7.out.size; clear E M7 HW7; have H := Own.refl w9; have tok8 : True := trivial)
    | (clear tok8; go_at_call 18; refine (hv1.out _ _ _ _ (P9.out.mv H).old ⟨(M9.out.call0 H).bytesAt, (M9.out.call0 H).lt⟩ (S9.out.mv H).old).mono ?_; rintro e w10 ⟨rfl, h3⟩; have H2 := H.call0 h3; clear H h3; have H := H2; clear H2; have tok9 : True := trivial)
    | (clear tok9; go_at_call 19; refine (hfo.out _ _ (P9.out.mv H).old).mono ?_; rintro e w11 ⟨rfl, h3⟩; have H2 := H.call0 h3; clear H h3; have H := H2; clear H2; have tok10 : True := trivial)
    | (clear tok10; go_at_call 8; have HW := Lib.hid (HW9.out.trans H); have S2 := Lib.hid (hcto.out _ _ _ _ hcs (S9.out.mv H).old); have P2 := Lib.hid (P9.out.mv H).old; have M2 := Lib.hid (show Old w11 (.slice p6 n c6) msg from ⟨(M9.out.call0 H).bytesAt, (M9.out.call0 H).lt⟩); clear H; have H := Own.refl w11; refine (hto.out _).mono ?_; rintro e w21 ⟨rfl, h3⟩; have H2 := H.call0 h3; clear H h3; have H := H2; clear H2; have tok11 : True := trivial)
    | (clear tok11; go_at_call 18; refine (hv2.out _ _ _ _ (P2.out.mv H (by simp)) (M2.out.mv H (by simp)) (S2.out.mv H (by simp))).mono ?_; rintro e w22 ⟨rfl, h3⟩; have H2 := H.call0 h3; clear H h3; have H := H2; clear H2; have tok12 : True := trivial)
    | (clear tok12; go_at_call 20; refine (hr2.out _ _ _ _ (P2.out.mv H (by simp)) (M2.out.mv H (by simp)) (S2.out.mv H (by simp))).mono ?_; rintro e w23 ⟨rfl, h3⟩; have H2 := H.call0 h3; clear H h3; have H := H2; clear H2; have tok13 : True := trivial)
    | (clear tok13; go_at_call 19; refine (hf2.out _ _ (P2.out.mv H (by simp))).mono ?_; rintro e w24 ⟨rfl, h3⟩; have H2 := H.call0 h3; clear H h3; have H := H2; clear H2; have tok14 : True := trivial)
    | (clear tok14; go_at_call 21; refine (hg2.out _ _ (P2.out.mv H (by simp))).mono ?_; rintro e w25 ⟨rfl, h3⟩; have H2 := H.call0 h3; clear H h3; have H := H2; clear H2; have tok15 : True := trivial))
  have HE := Lib.hid (HW.out.trans H)
  clear H
  go_ret
  exact ⟨rfl, HE.out⟩

set_option maxRecDepth 100000 in
set_option maxHeartbeats 8000000 in
theorem lmsVerifies_4 (w : World) (id seed : List Int) (h16 : id.length = 16) (h32 : seed.length = 32) (hidb : IsBytes id) (q0 t0 at0 x1 : Int) (hx1 : 0 ≤ x1 ∧ x1 < 256) (pm : Option Addr) (n cm : Nat) (msg : List Int) (hO : Old w (.slice pm n cm) msg) (hmb : IsBytes msg) (hn : n = msg.length) (hn5 : n ≤ 100) (hwe : wrap64 ((IntKind.u64.wrap t0).tmod 5) = 4) :
    Calls Tryz.prog 4 #[.agg (u8s (id ++ seed)).toArray, .int .i64 q0, .slice pm n cm, .int .i64 t0, .int .i64 at0, .int .u8 x1] w fun e w' => e = .returned (.bool true) ∧ Own w w' [] := by
  have H := Own.refl w
  have hto := Lib.hid ltold_any
  have _ := hx1
  have h48 : (id ++ seed).length = 48 := by rw [List.length_append, h16, h32]
  have hsz48 := Lib.hid (size_secretL h16 h32)
  obtain ⟨p, hpe, hp⟩ := rem_wrap q0 32 (by omega) (by omega)
  have hp32 : p < 32 := by omega
  have hnw : Hid (∀ w', Calls Tryz.prog 9 #[.agg (u8s (id ++ seed)).toArray, .int .i64 2] w' fun e w'' => ∃ b, e = .returned (.tuple #[.pointer (some ⟨b, 0, none⟩), .int .i64 0]) ∧ w'.heap.size ≤ b ∧ Own w' w'' [(b, treeG (id ++ seed) 2 0 0 (List.replicate 2048 0) 0, 74)]) := fun w' => lnew_any w' (id ++ seed) h48 2 (by omega)
  have hsg : Hid (∀ w' b, Own w' w' [(b, treeG (id ++ seed) 2 0 0 (List.replicate 2048 0) 0, 74)] → Old w' (.slice pm n cm) msg → (∀ k, blk (Value.slice pm n cm) = some k → k ≠ b) → Calls Tryz.prog 15 #[.pointer (some ⟨b, 0, none⟩), .int .i64 p, .slice pm n cm] w' fun e w'' => ∃ g c, e = .returned (.tuple #[.slice (some ⟨g, 0, none⟩) 4460 c, .int .i64 0]) ∧ 4460 ≤ c ∧ w'.heap.size ≤ g ∧ g < w''.heap.size ∧ BufR w'.heap.size (lsigOf id seed 2 p msg) w'' (.slice (some ⟨g, 0, none⟩) 4460 c) ∧ Own w' w'' [(b, fullT id seed 2, 74)]) := fun w' b h1 h2 h4 =>
    signA_any w' b id seed h16 h32 2 (by omega) _ (Or.inl rfl) p hp32 _ msg h2 hmb (by omega) h1 h4 rfl
  have hpu : Hid (∀ w' b, TreeAt w' b id seed 2 → Calls Tryz.prog 12 #[.pointer (some ⟨b, 0, none⟩)] w' fun e w'' => ∃ g c, e = .returned (.slice (some ⟨g, 0, none⟩) 56 c) ∧ 56 ≤ c ∧ w'.heap.size ≤ g ∧ g < w''.heap.size ∧ BufR w'.heap.size (pubL id seed 2) w'' (.slice (some ⟨g, 0, none⟩) 56 c) ∧ Own w' w'' []) := fun w' b h => lpubA_any w' b id seed h16 h32 2 (by omega) h
  have v1 := ver_sig h16 seed (k := 2) (by omega) hp32 msg
  have hsab := isBytes_lsig id seed 2 p msg
  have hsal : Hid ((lsigOf id seed 2 p msg).length = 4460) := length_lsigOf id seed 2 p msg
  have hpbb := isBytes_pubL hidb seed 2
  have hwd2 := width_pubL h16 seed (k := 2) (by omega)
  have hpbl : Hid ((pubL id seed 2).length = 56) := length_pubL h16 seed 2
  have hnl : Hid (msg.length = n) := hn.symm
  obtain ⟨sa, hsa0⟩ : ∃ s, s = lsigOf id seed 2 p msg := ⟨_, rfl⟩
  obtain ⟨pb, hpb0⟩ : ∃ s, s = pubL id seed 2 := ⟨_, rfl⟩
  rw [← hsa0] at hsg v1 hsab hsal
  rw [← hpb0] at hpu v1 hpbb hpbl hwd2
  have hsal9 : sa.length ≤ 1000000 := by rw [hsal.out]; omega
  have hpbl9 : pb.length ≤ 1000000 := by rw [hpbl.out]; omega
  have hfo : Hid (∀ w' v, Old w' v pb → Calls Tryz.prog 19 #[v] w' fun e w'' => e = .returned (.bool true) ∧ Own w' w'' []) := fun w' v h => by
    have h1 := form_any w' v pb h hpbb hpbl9
    rw [hwd2] at h1
    exact h1
  have hv1 : Hid (∀ w' v u t, Old w' v pb → Old w' u msg → Old w' t sa → Calls Tryz.prog 18 #[v, u, t] w' fun e w'' => e = .returned (.int .i64 (verL pb msg sa)) ∧ Own w' w'' []) := fun w' v u t h1 h2 h3 => ver_any w' v u t pb msg sa h1 hpbb hpbl9 h2 hmb (by omega) h3 hsab hsal9
  rw [v1] at hv1
  obtain ⟨sx, hsx⟩ : ∃ m, m = sa ++ [x1] := ⟨_, rfl⟩
  have hsxb : IsBytes sx := by rw [hsx]; exact isBytes_app hsab (isBytes_mem.2 fun z hz => by rw [List.mem_singleton] at hz; rw [hz]; exact hx1)
  have hsxl : sx.length ≤ 1000000 := by rw [hsx, List.length_append, hsal.out, List.length_singleton]; omega
  have hsx' := Lib.hid hsx.symm
  have hv2 : Hid (∀ w' v u t, Old w' v pb → Old w' u msg → Old w' t sx → Calls Tryz.prog 18 #[v, u, t] w' fun e w'' => e = .returned (.int .i64 (verL pb msg sx)) ∧ Own w' w'' []) := fun w' v u t h1 h2 h3 => ver_any w' v u t pb msg sx h1 hpbb hpbl9 h2 hmb (by omega) h3 hsxb hsxl
  have hr2 : Hid (∀ w' v u t, Old w' v pb → Old w' u msg → Old w' t sx → Calls Tryz.prog 20 #[v, u, t] w' fun e w'' => e = .returned (.int .i64 (verL pb msg sx)) ∧ Own w' w'' []) := fun w' v u t h1 h2 h3 => rver_any w' v u t pb msg sx h1 hpbb h2 hmb (by omega) h3 hsxb
  have hf2 : Hid (∀ w' v, Old w' v pb → Calls Tryz.prog 19 #[v] w' fun e w'' => e = .returned (.bool (decide (0 < widthL pb))) ∧ Own w' w'' []) := fun w' v h => form_any w' v pb h hpbb hpbl9
  have hg2 : Hid (∀ w' v, Old w' v pb → Calls Tryz.prog 21 #[v] w' fun e w'' => e = .returned (.bool (decide (0 < widthL pb))) ∧ Own w' w'' []) := fun w' v h => rform_any w' v pb h hpbb
  obtain ⟨V, hV⟩ : ∃ V, V = verL pb msg sx := ⟨_, rfl⟩
  obtain ⟨B, hB⟩ : ∃ B, B = decide (0 < widthL pb) := ⟨_, rfl⟩
  rw [← hV] at hv2 hr2
  rw [← hB] at hf2 hg2
  have hOw := Lib.hid hO
  clear hO hmb hn h16 h32 h48 hidb v1 hsab hsal9 hpbb hwd2 hpbl9 hsa0 hpb0 hV hB hp hsx hsxb hsxl
  go_enter Tryz.func4, Tryz.ntmps4
  have tok1 : True := trivial
  go_wp2_with (first
    | (clear tok1; refine st_new rfl (rn_box (cs := u8s (id ++ seed)) H rfl rfl rfl) ?_; clear H; intro b7 w1 hb7 H; have tok2 : True := trivial)
    | (clear tok2; refine st_val rfl (rn_loadAll (cs := u8s (id ++ seed)) H rfl rfl (.head _) rfl rfl hsz48.out) ?_; have tok3 : True := trivial)
    | (clear tok3; go_at_call 9; refine (hnw.out _).mono ?_; rintro e w2 ⟨bt, rfl, hbt, h3⟩; have hbt0 := Nat.le_trans H.size hbt; have H2 := H.callNew h3 hbt; have M2 := Lib.hid (hOw.out.mv H2 (by simp; omega)); have MN : ∀ k, blk (Value.slice pm n cm) = some k → k ≠ bt := (fun k hk => by have := hOw.out.2 k hk; omega); clear H h3; have H := H2; clear H2; have tok4 : True := trivial)
    | (clear tok4; go_at_call 15; refine (hsg.out _ bt (H.sub1 (.head _)) M2.out MN).mono ?_; rintro e w5 ⟨gs, cs, rfl, hcs, hgs, hgs5, hA, h3⟩; have hgs0 := Nat.le_trans H.size hgs; have hB1 := Lib.hid H.size; have H2 := Own.next (L := [_]) H h3 rfl; have S5 := Lib.hid hA; have T5 := Lib.hid (TreeAt.of h3); have HW := Lib.hid (H2.end0 (by simp; omega)); have M5 := Lib.hid (M2.out.mv1 h3 MN); clear H h3 hA MN M2 H2; have H := Own.refl w5; have tok5 : True := trivial)
    | (clear tok5; go_at_call 12; refine (hpu.out _ bt T5.out).mono ?_; rintro e w7 ⟨gp, cp, rfl, hcp, hgp, hgp7, hP, h3⟩; have hgp0 := Nat.le_trans HW.out.size hgp; have P7 := Lib.hid hP; have HW7 := Lib.hid (HW.out.trans h3); have S7 := Lib.hid (S5.out.mv h3); have M7 := Lib.hid (M5.out.mv h3 (by simp)); have hB2 := Lib.hid HW.out.size; clear H h3 hP HW S5 M5 T5; have H := Own.refl w7; have tok6 : True := trivial)
    | (clear tok6; refine st_new rfl (rn_buildSlice (e := 5) (cs := []) H rfl (fun w' => by kernel_rfl)) ?_; clear H; intro b5 w8 hb5 M; have E := BufV.lit (n := 0) (sz := 1) M hb5 rfl (by omega); have M8 := Lib.hid (M7.out.mv E.own0 (by simp)); clear M hb5; have tok7 : True := trivial)
    | (clear tok7; refine st_appV rfl E elem_u8 rfl rfl rfl rfl (m := n) (ds := u8s msg) (by have h := M8.out.1; rw [BytesAt, hnl.out] at h; exact h) (by rw [length_ints, Nat.mul_one]; exact hnl.out) (oneCell_ints _ _) (by omega) (by omega) ?_; clear E M8; intro p6 c6 w9 E; rw [List.nil_append, Nat.zero_add] at E; rw [Nat.zero_add]; have M9 : Hid (Buf 5 .u8 w7 w9 [] (.slice p6 n c6) msg) := (by show Buf _ _ _ _ _ _ _; unfold Buf; rw [hnl.out]; exact E); have HW9 := Lib.hid (HW7.out.trans E.own0); have P9 := Lib.hid (P7.out.mv E.own0); have S9 := Lib.hid (S7.out.mv E.own0); have h79 := Lib.hid E.own0; have hB3 := Lib.hid HW7.out.size; clear E M7 HW7; have H := Own.refl w9; have tok8 : True := trivial)
    | (clear tok8; go_at_call 18; refine (hv1.out _ _ _ _ (P9.out.mv H).old ⟨(M9.out.call0 H).bytesAt, (M9.out.call0 H).lt⟩ (S9.out.mv H).old).mono ?_; rintro e w10 ⟨rfl, h3⟩; have H2 := H.call0 h3; clear H h3; have H := H2; clear H2; have tok9 : True := trivial)
    | (clear tok9; go_at_call 19; refine (hfo.out _ _ (P9.out.mv H).old).mono ?_; rintro e w11 ⟨rfl, h3⟩; have H2 := H.call0 h3; clear H h3; have H := H2; clear H2; have tok10 : True := trivial)
    | (clear tok10; refine st_new rfl (rn_buildSlice (e := 5) (cs := u8s [x1]) (Own.refl w11) rfl (fun w' => by kernel_rfl)) ?_; intro b2 w12 hb2 M; have H2 := H.trans (M.end0 (by simpa using hb2)); clear H; have H := H2; clear H2; have tok11 : True := trivial)
    | (clear tok11; refine st_appG rfl ((S9.out.mv H).use (HW9.out.trans H) hB1.out (by simp)) elem_u8 rfl rfl rfl rfl (ys := [x1]) (Own.lit M rfl) (by rw [hsal.out]; simp) (by rw [hsal.out]; simp) (m := 4461) (by rw [hsal.out]; rfl) ?_; clear M; intro p13 c13 w13 G E; rw [hsx'.out] at E; rw [hsal.out] at G; have HW := Lib.hid E.own0; have S2 := Lib.hid (show Old w13 (.slice p13 4461 c13) sx from ⟨E.bytesAt, E.lt⟩); have P2 := Lib.hid (BufO (((P9.out.mv H).use (HW9.out.trans H) hB2.out (by simp)).gr (by rw [hpbl.out]; omega) G)); have M2 := Lib.hid (BufO ((((BufR.ofB M9.out).mv H).use (HW9.out.trans H) hB3.out (by simp)).gr (by rw [hnl.out]; omega) G)); clear E G H; have H := Own.refl w13; have tok12 : True := trivial)
    | (clear tok12; go_at_call 8; refine (hto.out _).mono ?_; rintro e w21 ⟨rfl, h3⟩; have H2 := H.call0 h3; clear H h3; have H := H2; clear H2; have tok13 : True := trivial)
    | (clear tok13; go_at_call 18; refine (hv2.out _ _ _ _ (P2.out.mv H (by simp)) (M2.out.mv H (by simp)) (S2.out.mv H (by simp))).mono ?_; rintro e w22 ⟨rfl, h3⟩; have H2 := H.call0 h3; clear H h3; have H := H2; clear H2; have tok14 : True := trivial)
    | (clear tok14; go_at_call 20; refine (hr2.out _ _ _ _ (P2.out.mv H (by simp)) (M2.out.mv H (by simp)) (S2.out.mv H (by simp))).mono ?_; rintro e w23 ⟨rfl, h3⟩; have H2 := H.call0 h3; clear H h3; have H := H2; clear H2; have tok15 : True := trivial)
    | (clear tok15; go_at_call 19; refine (hf2.out _ _ (P2.out.mv H (by simp))).mono ?_; rintro e w24 ⟨rfl, h3⟩; have H2 := H.call0 h3; clear H h3; have H := H2; clear H2; have tok16 : True := trivial)
    | (clear tok16; go_at_call 21; refine (hg2.out _ _ (P2.out.mv H (by simp))).mono ?_; rintro e w25 ⟨rfl, h3⟩; have H2 := H.call0 h3; clear H h3; have H := H2; clear H2; have tok17 : True := trivial))
  have HE := Lib.hid (HW.out.trans H)
  clear H
  go_ret
  exact ⟨rfl, HE.out⟩

set_option maxRecDepth 100000 in
set_option maxHeartbeats 8000000 in
theorem lmsVerifies_row (w : World) (ss : List Int) (h48 : ss.length = 48) (hsb : ∀ i, i < ss.length → 0 ≤ ss[i]?.getD 0 ∧ ss[i]?.getD 0 < 256) (q0 : Int) (_ : IntKind.i64.min ≤ q0) (_ : q0 ≤ IntKind.i64.max)
    (mv : Value) (msg : List Int) (hm : BytesAt w mv msg) (hml : ∀ k, blk mv = some k → k < w.heap.size) (hmb : ∀ i, i < msg.length → 0 ≤ msg[i]?.getD 0 ∧ msg[i]?.getD 0 < 256)
    (t0 : Int) (_ : IntKind.i64.min ≤ t0) (_ : t0 ≤ IntKind.i64.max) (at0 : Int) (_ : IntKind.i64.min ≤ at0) (_ : at0 ≤ IntKind.i64.max) (x1 : Int) (hx1 : IntKind.u8.min ≤ x1) (hx2 : x1 ≤ IntKind.u8.max) :
    Calls Tryz.prog 4 #[.agg (u8s ss).toArray, .int .i64 q0, mv, .int .i64 t0, .int .i64 at0, .int .u8 x1] w fun e w' => e = .returned (.bool true) ∧ Own w w' [] := by
  rename_i q1 q2 q3 q4 q5 q6
  clear q1 q2 q3 q4 q5 q6
  have hx3 : 0 ≤ x1 ∧ x1 < 256 := by
    have e1 : IntKind.u8.min = 0 := by decide
    have e2 : IntKind.u8.max = 255 := by decide
    rw [e1] at hx1
    rw [e2] at hx2
    omega
  clear hx1 hx2
  have H := Own.refl w
  have hO : Old w mv msg := ⟨hm, hml⟩
  obtain ⟨pm, cm, rfl⟩ := hO.shape
  obtain ⟨n, hn⟩ : ∃ n, n = msg.length := ⟨_, rfl⟩
  rw [← hn] at hO ⊢
  obtain ⟨id, seed, rfl, h16, h32⟩ := split48 h48
  have hidb : IsBytes id := isBytes_left hsb
  have hto := Lib.hid ltold_any
  by_cases hbig : 100 < n
  · clear hm hml hmb hO hn h48 h16 h32 hsb hidb hx3
    go_enter Tryz.func4, Tryz.ntmps4
    have tok1 : True := trivial
    go_wp2_with (first
      | (clear tok1; refine st_new rfl (rn_box (cs := u8s (id ++ seed)) H rfl rfl rfl) ?_; clear H; intro b7 w1 hb7 H; have tok2 : True := trivial)
      | (clear tok2; go_at_call 8; refine (hto.out _).mono ?_; rintro e w2 ⟨rfl, h3⟩; have H2 := H.call0 h3; clear H h3; have H := H2; clear H2; have tok3 : True := trivial))
    have h1 := Lib.hid (H.end0 (by simpa using hb7))
    clear H
    go_ret
    exact ⟨rfl, h1.out⟩
  obtain ⟨k0, hk0, hk2⟩ := rem_wrap t0 5 (by omega) (by omega)
  have hc : k0 = 0 ∨ k0 = 1 ∨ k0 = 2 ∨ k0 = 3 ∨ k0 = 4 := by omega
  rcases hc with rfl | rfl | rfl | rfl | rfl
  · exact lmsVerifies_0 w id seed h16 h32 hidb q0 t0 at0 x1 hx3 pm n cm msg hO hmb hn (by omega) hk0
  · exact lmsVerifies_1 w id seed h16 h32 hidb q0 t0 at0 x1 hx3 pm n cm msg hO hmb hn (by omega) hk0
  · exact lmsVerifies_2 w id seed h16 h32 hidb q0 t0 at0 x1 hx3 pm n cm msg hO hmb hn (by omega) hk0
  · exact lmsVerifies_3 w id seed h16 h32 hidb q0 t0 at0 x1 hx3 pm n cm msg hO hmb hn (by omega) hk0
  · exact lmsVerifies_4 w id seed h16 h32 hidb q0 t0 at0 x1 hx3 pm n cm msg hO hmb hn (by omega) hk0

end Go.Proofs.YtfihlmnbonnekaaGreat
