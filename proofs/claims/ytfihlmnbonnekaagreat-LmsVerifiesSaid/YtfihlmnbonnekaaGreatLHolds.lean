/- chirographlaw4.LmsHolds: the walk. -/
import Derived.Test.YtfihlmnbonnekaaGreatRVer
import Derived.Test.YtfihlmnbonnekaaGreatLLaw
import Derived.Laws.BitsAllLaws
namespace Go.Proofs.YtfihlmnbonnekaaGreat
open Go.RowKit

theorem xor_facts4 {z x : Int} (hz : 0 ≤ z ∧ z < 256) (hx : 0 ≤ x ∧ x < 256) : 0 ≤ bits .xor .u8 z x ∧ bits .xor .u8 z x < 256 := by
  rw [u8_xor z x hz.1 hz.2 hx.1 hx.2]
  have h := Nat.xor_lt_two_pow (x := z.toNat) (y := x.toNat) (n := 8) (by omega) (by omega)
  omega
theorem isBytes_set4 {bs : List Int} {k : Nat} {z : Int} (h : IsBytes bs) (hz : 0 ≤ z ∧ z < 256) : IsBytes (bs.set k z) := by
  rw [isBytes_mem] at h ⊢
  intro x hx
  rcases List.mem_or_eq_of_mem_set hx with h1 | rfl
  · exact h x h1
  · exact hz
theorem BufV.cellAt4 {e : TypeId} {w0 w : World} {L : List Ent} {g n c : Nat} {cs : List Value} (E : BufV e 1 w0 w L (.slice (some ⟨g, 0, none⟩) n c) n cs) {i : Nat} {u : Value} (hu : cs[i]? = some u) : w.cell? ⟨g, i, none⟩ = some u := by
  simpa using E.cellAt hu
theorem rn_to {P : Program} {o : Oper} {a : Act} {w : World} {t e : TypeId} {x : Operand} {hi : Option Operand} (ho : o.op = .slice t x none hi none) (hu : P.underlying t = some (.slice e)) (hs : (P.info? e).map (·.size) = some 1) {b off n c h : Nat} (hx : a.eval x = .slice (some ⟨b, off, none⟩) n c)
    (hh : BoundIs (hi.map a.eval) n h) (h2 : h ≤ n) (h3 : n ≤ c) : (execOp a.eval o).run P w = .ok (.value (.slice (some ⟨b, off, none⟩) h c)) w := by
  unfold execOp
  simp only [ho]
  generalize hi.map a.eval = hiv at hh ⊢
  have e1 : h ≤ c := by omega
  cases hh with
  | no => simp [hx, Instr.sliceAt, Instr.slice, Sem.run_bind, run_underlying hu, Instr.sliceBounds, run_sizeOf hs, add_plain]
  | yes h' =>
    subst h'
    simp [hx, Instr.sliceAt, Instr.slice, Sem.run_bind, run_underlying hu, Instr.sliceBounds, Instr.sliceBound, asIntOf, run_sizeOf hs, add_plain, e1]
theorem Old.to {w : World} {b off n c h : Nat} {xs : List Int} (H : Old w (.slice (some ⟨b, off, none⟩) n c) xs) (hn : n = xs.length) (h2 : h ≤ n) (h3 : n ≤ c) (h0 : 0 < n) : Old w (.slice (some ⟨b, off, none⟩) h c) (xs.take h) := by
  have hl2 : (xs.take h).length = h := by rw [List.length_take]; omega
  obtain ⟨h1, h4⟩ := H
  have hb : b < w.heap.size := World.block_lt_of_cell? w _ (byte_of h1 (show 0 < xs.length by omega))
  refine ⟨?_, fun k hk => by obtain rfl := (blk_some hk).1; exact hb⟩
  rw [BytesAt, hl2]
  refine Or.inr ⟨b, off, c, rfl, ⟨by omega, fun h => List.eq_nil_of_length_eq_zero (by rw [length_ints, hl2]; exact h)⟩, fun i x hx => ?_⟩
  have hi : i < h := by have := (List.getElem?_eq_some_iff.1 hx).1; simp at this; omega
  rw [ints_get (by rw [hl2]; exact hi)] at hx
  cases hx
  rw [byte_of h1 (show i < xs.length by omega), List.getElem?_take_of_lt hi]
theorem signF_any (w : World) (b : Nat) (id seed : List Int) (h16 : id.length = 16) (h32 : seed.length = 32) (k : Nat) (hk : k = 1 ∨ k = 2 ∨ k = 4 ∨ k = 8) (hT : TreeAt w b id seed k) (q : Nat) (hq : q < 32) (mv : Value) (msg : List Int) (hm : Old w mv msg) (hmb : IsBytes msg) (hml : msg.length ≤ 90000) (hmne : ∀ k, blk mv = some k → k ≠ b) {n : Nat} (hn : n = sizeOfL k) :
    Calls Tryz.prog 15 #[.pointer (some ⟨b, 0, none⟩), .int .i64 q, mv] w fun e w' => ∃ g o c, e = .returned (.tuple #[.slice (some ⟨g, o, none⟩) n c, .int .i64 0]) ∧ n ≤ c ∧ Old w' (.slice (some ⟨g, o, none⟩) n c) (lsigOf id seed k q msg) ∧ w.heap.size ≤ g ∧ Own w w' [] :=
  (signN_any w b id seed h16 h32 k hk _ (Or.inr rfl) q hq mv msg hm hmb hml hT.own hmne hn).mono fun _ _ ⟨g, o, c, h1, h2, h3, h4, h5⟩ => ⟨g, o, c, h1, h2, h3, h4, h5.same hT⟩
theorem Old.mv1 {w w' : World} {v : Value} {xs : List Int} {b : Nat} {cs : List Value} {T : TypeId} (h : Old w v xs) (ho : Own w w' [(b, cs, T)]) (hn : ∀ k, blk v = some k → k ≠ b) : Old w' v xs :=
  ⟨SlAt.own h.1 ho (fun k hk hm => by simp at hm; exact hn k hk hm), fun k hk => Nat.lt_of_lt_of_le (h.2 k hk) ho.size⟩
theorem isBytes_lsig (id seed : List Int) (k q : Nat) (msg : List Int) : IsBytes (lsigOf id seed k q msg) := by
  rw [lsig_eq]
  exact isBytes_app (isBytes_numB _ _) (isBytes_app (isBytes_sigOf _ _ _ _ _) (isBytes_app (isBytes_numB _ _) (isBytes_flatX (fun i => isBytes_pathOf id seed k q i) 5)))
theorem ver_cut {pub msg sig : List Int} (hw : widthL pub ≠ 0) (hl : sig.length ≠ sizeOfL (widthL pub)) : verL pub msg sig = 3 := by
  unfold verL verK
  rw [if_neg hw, if_neg hl]

set_option maxRecDepth 100000 in
set_option maxHeartbeats 8000000 in
theorem lmsHolds_0 (w : World) (id seed : List Int) (h16 : id.length = 16) (h32 : seed.length = 32) (hidb : IsBytes id) (p0 q0 at0 x1 : Int) (hx1 : 0 ≤ x1 ∧ x1 < 256) (pm ps : Option Addr) (n m cm cs : Nat) (msg oth : List Int) (hO : Old w (.slice pm n cm) msg) (hmb : IsBytes msg) (hn : n = msg.length) (hn5 : n ≤ 60) (hS : Old w (.slice ps m cs) oth) (hgb : IsBytes oth) (hmn : m = oth.length) (hm5 : m ≤ 60) (hx0 : x1 = 0) :
    Calls Tryz.prog 5 #[.agg (u8s (id ++ seed)).toArray, .int .i64 p0, .int .i64 q0, .slice pm n cm, .slice ps m cs, .int .i64 at0, .int .u8 x1] w fun e w' => e = .returned (.bool true) ∧ Own w w' [] := by
  have H := Own.refl w
  have hto := Lib.hid ltold_any
  have h48 : (id ++ seed).length = 48 := by rw [List.length_append, h16, h32]
  have hsz48 := Lib.hid (size_secretL h16 h32)
  obtain ⟨p, hpe, hp⟩ := rem_wrap p0 32 (by omega) (by omega)
  have hp32 : p < 32 := by omega
  obtain ⟨q, hqe, hq⟩ := rem_wrap q0 32 (by omega) (by omega)
  have hq32 : q < 32 := by omega
  have hnw : Hid (∀ w', Calls Tryz.prog 9 #[.agg (u8s (id ++ seed)).toArray, .int .i64 2] w' fun e w'' => ∃ b, e = .returned (.tuple #[.pointer (some ⟨b, 0, none⟩), .int .i64 0]) ∧ w'.heap.size ≤ b ∧ Own w' w'' [(b, treeG (id ++ seed) 2 0 0 (List.replicate 2048 0) 0, 74)]) := fun w' => lnew_any w' (id ++ seed) h48 2 (by omega)
  have hsg : Hid (∀ w' b, Own w' w' [(b, treeG (id ++ seed) 2 0 0 (List.replicate 2048 0) 0, 74)] → Old w' (.slice pm n cm) msg → (∀ k, blk (Value.slice pm n cm) = some k → k ≠ b) → Calls Tryz.prog 15 #[.pointer (some ⟨b, 0, none⟩), .int .i64 p, .slice pm n cm] w' fun e w'' => ∃ g o c, e = .returned (.tuple #[.slice (some ⟨g, o, none⟩) 4460 c, .int .i64 0]) ∧ 4460 ≤ c ∧ Old w'' (.slice (some ⟨g, o, none⟩) 4460 c) (lsigOf id seed 2 p msg) ∧ w'.heap.size ≤ g ∧ Own w' w'' [(b, fullT id seed 2, 74)]) := fun w' b h1 h2 h4 =>
    signN_any w' b id seed h16 h32 2 (by omega) _ (Or.inl rfl) p hp32 _ msg h2 hmb (by omega) h1 h4 rfl
  have hsf : Hid (∀ w' b, TreeAt w' b id seed 2 → Old w' (.slice ps m cs) oth → (∀ k, blk (Value.slice ps m cs) = some k → k ≠ b) → Calls Tryz.prog 15 #[.pointer (some ⟨b, 0, none⟩), .int .i64 q, .slice ps m cs] w' fun e w'' => ∃ g o c, e = .returned (.tuple #[.slice (some ⟨g, o, none⟩) 4460 c, .int .i64 0]) ∧ 4460 ≤ c ∧ Old w'' (.slice (some ⟨g, o, none⟩) 4460 c) (lsigOf id seed 2 q oth) ∧ w'.heap.size ≤ g ∧ Own w' w'' []) := fun w' b h1 h2 h4 =>
    signF_any w' b id seed h16 h32 2 (by omega) h1 q hq32 _ oth h2 hgb (by omega) h4 rfl
  have hpu : Hid (∀ w' b, TreeAt w' b id seed 2 → Calls Tryz.prog 12 #[.pointer (some ⟨b, 0, none⟩)] w' fun e w'' => ∃ g o c, e = .returned (.slice (some ⟨g, o, none⟩) 56 c) ∧ 56 ≤ c ∧ Old w'' (.slice (some ⟨g, o, none⟩) 56 c) (pubL id seed 2) ∧ Own w' w'' []) := fun w' b h => pubF_any w' b id seed h16 h32 2 (by omega) h
  have v1 := ver_sig h16 seed (k := 2) (by omega) hp32 msg
  have v2 := ver_sig h16 seed (k := 2) (by omega) hq32 oth
  have hsab := isBytes_lsig id seed 2 p msg
  have hsfb := isBytes_lsig id seed 2 q oth
  have hsal : Hid ((lsigOf id seed 2 p msg).length = 4460) := length_lsigOf id seed 2 p msg
  have hsfl : Hid ((lsigOf id seed 2 q oth).length = 4460) := length_lsigOf id seed 2 q oth
  have hpbb := isBytes_pubL hidb seed 2
  have hwd2 := width_pubL h16 seed (k := 2) (by omega)
  have hpbl : (pubL id seed 2).length ≤ 1000000 := by rw [length_pubL h16]; omega
  obtain ⟨sa, hsa0⟩ : ∃ s, s = lsigOf id seed 2 p msg := ⟨_, rfl⟩
  obtain ⟨sf, hsf0⟩ : ∃ s, s = lsigOf id seed 2 q oth := ⟨_, rfl⟩
  obtain ⟨pb, hpb0⟩ : ∃ s, s = pubL id seed 2 := ⟨_, rfl⟩
  rw [← hsa0] at hsg v1 hsab hsal
  rw [← hsf0] at hsf v2 hsfb hsfl
  rw [← hpb0] at hpu v1 v2 hpbb hpbl hwd2
  have hsal9 : sa.length ≤ 1000000 := by rw [hsal.out]; omega
  have hsfl9 : sf.length ≤ 1000000 := by rw [hsfl.out]; omega
  have hv1 : Hid (∀ w' v u t, Old w' v pb → Old w' u msg → Old w' t sa → Calls Tryz.prog 18 #[v, u, t] w' fun e w'' => e = .returned (.int .i64 (verL pb msg sa)) ∧ Own w' w'' []) := fun w' v u t h1 h2 h3 => ver_any w' v u t pb msg sa h1 hpbb hpbl h2 hmb (by omega) h3 hsab hsal9
  have hv2 : Hid (∀ w' v u t, Old w' v pb → Old w' u oth → Old w' t sf → Calls Tryz.prog 18 #[v, u, t] w' fun e w'' => e = .returned (.int .i64 (verL pb oth sf)) ∧ Own w' w'' []) := fun w' v u t h1 h2 h3 => ver_any w' v u t pb oth sf h1 hpbb hpbl h2 hgb (by omega) h3 hsfb hsfl9
  have hv3 : Hid (∀ w' v u t, Old w' v pb → Old w' u oth → Old w' t sa → Calls Tryz.prog 18 #[v, u, t] w' fun e w'' => e = .returned (.int .i64 (verL pb oth sa)) ∧ Own w' w'' []) := fun w' v u t h1 h2 h3 => ver_any w' v u t pb oth sa h1 hpbb hpbl h2 hgb (by omega) h3 hsab hsal9
  have hr3 : Hid (∀ w' v u t, Old w' v pb → Old w' u oth → Old w' t sa → Calls Tryz.prog 20 #[v, u, t] w' fun e w'' => e = .returned (.int .i64 (verL pb oth sa)) ∧ Own w' w'' []) := fun w' v u t h1 h2 h3 => rver_any w' v u t pb oth sa h1 hpbb h2 hgb (by omega) h3 hsab
  have hv4 : Hid (∀ w' v u t, Old w' v pb → Old w' u msg → Old w' t sf → Calls Tryz.prog 18 #[v, u, t] w' fun e w'' => e = .returned (.int .i64 (verL pb msg sf)) ∧ Own w' w'' []) := fun w' v u t h1 h2 h3 => ver_any w' v u t pb msg sf h1 hpbb hpbl h2 hmb (by omega) h3 hsfb hsfl9
  have hr4 : Hid (∀ w' v u t, Old w' v pb → Old w' u msg → Old w' t sf → Calls Tryz.prog 20 #[v, u, t] w' fun e w'' => e = .returned (.int .i64 (verL pb msg sf)) ∧ Own w' w'' []) := fun w' v u t h1 h2 h3 => rver_any w' v u t pb msg sf h1 hpbb h2 hmb (by omega) h3 hsfb
  rw [v1] at hv1
  rw [v2] at hv2
  obtain ⟨V3, hV3⟩ : ∃ V, V = verL pb oth sa := ⟨_, rfl⟩
  obtain ⟨V4, hV4⟩ : ∃ V, V = verL pb msg sf := ⟨_, rfl⟩
  simp only [← hV3] at hv3 hr3
  simp only [← hV4] at hv4 hr4
  have hOw := Lib.hid hO
  have hSw := Lib.hid hS
  subst hx0
  clear hO hmb hn hS hgb hmn h16 h32 h48 hidb v1 v2 hsab hsfb hsal9 hsfl9 hpbb hwd2 hpbl hsa0 hsf0 hpb0 hV3 hV4 hp hq
  go_enter Tryz.func5, Tryz.ntmps5
  have tok1 : True := trivial
  go_wp2_with (first
    | (clear tok1; refine st_new rfl (rn_box (cs := u8s (id ++ seed)) H rfl rfl rfl) ?_; clear H; intro b7 w1 hb7 H; have tok2 : True := trivial)
    | (clear tok2; refine st_val rfl (rn_loadAll (cs := u8s (id ++ seed)) H rfl rfl (.head _) rfl rfl hsz48.out) ?_; have tok3 : True := trivial)
    | (clear tok3; go_at_call 9; refine (hnw.out _).mono ?_; rintro e w2 ⟨bt, rfl, hbt, h3⟩; have hbt0 := Nat.le_trans H.size hbt; have H2 := H.callNew h3 hbt; have M2 := Lib.hid (hOw.out.mv H2 (by simp; omega)); have S2 := Lib.hid (hSw.out.mv H2 (by simp; omega)); have MN : ∀ k, blk (Value.slice pm n cm) = some k → k ≠ bt := (fun k hk => by have := hOw.out.2 k hk; omega); have SN := Lib.hid (show ∀ k, blk (Value.slice ps m cs) = some k → k ≠ bt from fun k hk => by have := hSw.out.2 k hk; omega); clear H h3; have H := H2; clear H2; have tok4 : True := trivial)
    | (clear tok4; go_at_call 15; refine (hsg.out _ bt (H.sub1 (.head _)) M2.out MN).mono ?_; rintro e w5 ⟨ag, ao, ac, rfl, hac, hA, hag, h3⟩; have H2 := Own.next (L := [_]) H h3 rfl; have A5 := Lib.hid hA; have T5 := Lib.hid (TreeAt.of h3); have HW := Lib.hid (H2.end0 (by simp; omega)); have M5 := Lib.hid (M2.out.mv1 h3 MN); have S5 := Lib.hid (S2.out.mv1 h3 SN.out); clear H h3 hA MN M2 S2 H2; have H := Own.refl w5; have tok5 : True := trivial)
    | (clear tok5; go_at_call 15; refine (hsf.out _ bt T5.out S5.out SN.out).mono ?_; rintro e w6 ⟨fg, fo, fc, rfl, hfc, hF, hfg, h3⟩; have F6 := Lib.hid hF; have T6 := Lib.hid (T5.out.mv h3 (by simp)); have HW2 := Lib.hid (HW.out.trans h3); have A6 := Lib.hid (A5.out.mv h3 (by simp)); have M6 := Lib.hid (M5.out.mv h3 (by simp)); have S6 := Lib.hid (S5.out.mv h3 (by simp)); clear H h3 hF HW A5 T5 M5 S5 SN; have H := Own.refl w6; have tok6 : True := trivial)
    | (clear tok6; go_at_call 12; refine (hpu.out _ bt T6.out).mono ?_; rintro e w7 ⟨pg, po, pc, rfl, hpc, hP, h3⟩; have P7 := Lib.hid hP; have HW := Lib.hid (HW2.out.trans h3); have A5 := Lib.hid (A6.out.mv h3 (by simp)); have F5 := Lib.hid (F6.out.mv h3 (by simp)); have M5 := Lib.hid (M6.out.mv h3 (by simp)); have S5 := Lib.hid (S6.out.mv h3 (by simp)); clear H h3 hP HW2 A6 F6 M6 S6 T6; have F6 := F5; clear F5; have H := Own.refl w7; have tok7 : True := trivial)
    | (clear tok7; go_at_call 18; refine (hv1.out _ _ _ _ (P7.out.mv H (by simp)) (M5.out.mv H (by simp)) (A5.out.mv H (by simp))).mono ?_; rintro e w8 ⟨rfl, h3⟩; have H2 := H.call0 h3; clear H h3; have H := H2; clear H2; have tok8 : True := trivial)
    | (clear tok8; go_at_call 18; refine (hv2.out _ _ _ _ (P7.out.mv H (by simp)) (S5.out.mv H (by simp)) (F6.out.mv H (by simp))).mono ?_; rintro e w9 ⟨rfl, h3⟩; have H2 := H.call0 h3; clear H h3; have H := H2; clear H2; have tok9 : True := trivial)
    | (clear tok9; go_at_call 18; refine (hv3.out _ _ _ _ (P7.out.mv H (by simp)) (S5.out.mv H (by simp)) (A5.out.mv H (by simp))).mono ?_; rintro e w10 ⟨rfl, h3⟩; have H2 := H.call0 h3; clear H h3; have H := H2; clear H2; have tok10 : True := trivial)
    | (clear tok10; go_at_call 20; refine (hr3.out _ _ _ _ (P7.out.mv H (by simp)) (S5.out.mv H (by simp)) (A5.out.mv H (by simp))).mono ?_; rintro e w11 ⟨rfl, h3⟩; have H2 := H.call0 h3; clear H h3; have H := H2; clear H2; have tok11 : True := trivial)
    | (clear tok11; go_at_call 18; refine (hv4.out _ _ _ _ (P7.out.mv H (by simp)) (M5.out.mv H (by simp)) (F6.out.mv H (by simp))).mono ?_; rintro e w12 ⟨rfl, h3⟩; have H2 := H.call0 h3; clear H h3; have H := H2; clear H2; have tok12 : True := trivial)
    | (clear tok12; go_at_call 20; refine (hr4.out _ _ _ _ (P7.out.mv H (by simp)) (M5.out.mv H (by simp)) (F6.out.mv H (by simp))).mono ?_; rintro e w13 ⟨rfl, h3⟩; have H2 := H.call0 h3; clear H h3; have H := H2; clear H2; have tok13 : True := trivial)
    | (clear tok13; go_at_call 8; refine (hto.out _).mono ?_; rintro e w14 ⟨rfl, h3⟩; have H2 := H.call0 h3; clear H h3; have H := H2; clear H2; have tok14 : True := trivial))
  have HE := Lib.hid (HW.out.trans H)
  clear H
  go_ret
  exact ⟨rfl, HE.out⟩

set_option maxRecDepth 100000 in
set_option maxHeartbeats 8000000 in
theorem lmsHolds_1 (w : World) (id seed : List Int) (h16 : id.length = 16) (h32 : seed.length = 32) (hidb : IsBytes id) (p0 q0 at0 x1 : Int) (hx1 : 0 ≤ x1 ∧ x1 < 256) (pm ps : Option Addr) (n m cm cs : Nat) (msg oth : List Int) (hO : Old w (.slice pm n cm) msg) (hmb : IsBytes msg) (hn : n = msg.length) (hn5 : n ≤ 60) (hS : Old w (.slice ps m cs) oth) (hgb : IsBytes oth) (hmn : m = oth.length) (hm5 : m ≤ 60) (hx0 : ¬ x1 = 0) :
    Calls Tryz.prog 5 #[.agg (u8s (id ++ seed)).toArray, .int .i64 p0, .int .i64 q0, .slice pm n cm, .slice ps m cs, .int .i64 at0, .int .u8 x1] w fun e w' => e = .returned (.bool true) ∧ Own w w' [] := by
  have H := Own.refl w
  have hto := Lib.hid ltold_any
  have h48 : (id ++ seed).length = 48 := by rw [List.length_append, h16, h32]
  have hsz48 := Lib.hid (size_secretL h16 h32)
  obtain ⟨p, hpe, hp⟩ := rem_wrap p0 32 (by omega) (by omega)
  have hp32 : p < 32 := by omega
  obtain ⟨q, hqe, hq⟩ := rem_wrap q0 32 (by omega) (by omega)
  have hq32 : q < 32 := by omega
  have hnw : Hid (∀ w', Calls Tryz.prog 9 #[.agg (u8s (id ++ seed)).toArray, .int .i64 2] w' fun e w'' => ∃ b, e = .returned (.tuple #[.pointer (some ⟨b, 0, none⟩), .int .i64 0]) ∧ w'.heap.size ≤ b ∧ Own w' w'' [(b, treeG (id ++ seed) 2 0 0 (List.replicate 2048 0) 0, 74)]) := fun w' => lnew_any w' (id ++ seed) h48 2 (by omega)
  have hsg : Hid (∀ w' b, Own w' w' [(b, treeG (id ++ seed) 2 0 0 (List.replicate 2048 0) 0, 74)] → Old w' (.slice pm n cm) msg → (∀ k, blk (Value.slice pm n cm) = some k → k ≠ b) → Calls Tryz.prog 15 #[.pointer (some ⟨b, 0, none⟩), .int .i64 p, .slice pm n cm] w' fun e w'' => ∃ g o c, e = .returned (.tuple #[.slice (some ⟨g, o, none⟩) 4460 c, .int .i64 0]) ∧ 4460 ≤ c ∧ Old w'' (.slice (some ⟨g, o, none⟩) 4460 c) (lsigOf id seed 2 p msg) ∧ w'.heap.size ≤ g ∧ Own w' w'' [(b, fullT id seed 2, 74)]) := fun w' b h1 h2 h4 =>
    signN_any w' b id seed h16 h32 2 (by omega) _ (Or.inl rfl) p hp32 _ msg h2 hmb (by omega) h1 h4 rfl
  have hsf : Hid (∀ w' b, TreeAt w' b id seed 2 → Old w' (.slice ps m cs) oth → (∀ k, blk (Value.slice ps m cs) = some k → k ≠ b) → Calls Tryz.prog 15 #[.pointer (some ⟨b, 0, none⟩), .int .i64 q, .slice ps m cs] w' fun e w'' => ∃ g o c, e = .returned (.tuple #[.slice (some ⟨g, o, none⟩) 4460 c, .int .i64 0]) ∧ 4460 ≤ c ∧ Old w'' (.slice (some ⟨g, o, none⟩) 4460 c) (lsigOf id seed 2 q oth) ∧ w'.heap.size ≤ g ∧ Own w' w'' []) := fun w' b h1 h2 h4 =>
    signF_any w' b id seed h16 h32 2 (by omega) h1 q hq32 _ oth h2 hgb (by omega) h4 rfl
  have hpu : Hid (∀ w' b, TreeAt w' b id seed 2 → Calls Tryz.prog 12 #[.pointer (some ⟨b, 0, none⟩)] w' fun e w'' => ∃ g o c, e = .returned (.slice (some ⟨g, o, none⟩) 56 c) ∧ 56 ≤ c ∧ Old w'' (.slice (some ⟨g, o, none⟩) 56 c) (pubL id seed 2) ∧ Own w' w'' []) := fun w' b h => pubF_any w' b id seed h16 h32 2 (by omega) h
  have v1 := ver_sig h16 seed (k := 2) (by omega) hp32 msg
  have v2 := ver_sig h16 seed (k := 2) (by omega) hq32 oth
  have hsab := isBytes_lsig id seed 2 p msg
  have hsfb := isBytes_lsig id seed 2 q oth
  have hsal : Hid ((lsigOf id seed 2 p msg).length = 4460) := length_lsigOf id seed 2 p msg
  have hsfl : Hid ((lsigOf id seed 2 q oth).length = 4460) := length_lsigOf id seed 2 q oth
  have hpbb := isBytes_pubL hidb seed 2
  have hwd2 := width_pubL h16 seed (k := 2) (by omega)
  have hpbl : (pubL id seed 2).length ≤ 1000000 := by rw [length_pubL h16]; omega
  obtain ⟨sa, hsa0⟩ : ∃ s, s = lsigOf id seed 2 p msg := ⟨_, rfl⟩
  obtain ⟨sf, hsf0⟩ : ∃ s, s = lsigOf id seed 2 q oth := ⟨_, rfl⟩
  obtain ⟨pb, hpb0⟩ : ∃ s, s = pubL id seed 2 := ⟨_, rfl⟩
  rw [← hsa0] at hsg v1 hsab hsal
  rw [← hsf0] at hsf v2 hsfb hsfl
  rw [← hpb0] at hpu v1 v2 hpbb hpbl hwd2
  have hsal9 : sa.length ≤ 1000000 := by rw [hsal.out]; omega
  have hsfl9 : sf.length ≤ 1000000 := by rw [hsfl.out]; omega
  have hv1 : Hid (∀ w' v u t, Old w' v pb → Old w' u msg → Old w' t sa → Calls Tryz.prog 18 #[v, u, t] w' fun e w'' => e = .returned (.int .i64 (verL pb msg sa)) ∧ Own w' w'' []) := fun w' v u t h1 h2 h3 => ver_any w' v u t pb msg sa h1 hpbb hpbl h2 hmb (by omega) h3 hsab hsal9
  have hv2 : Hid (∀ w' v u t, Old w' v pb → Old w' u oth → Old w' t sf → Calls Tryz.prog 18 #[v, u, t] w' fun e w'' => e = .returned (.int .i64 (verL pb oth sf)) ∧ Own w' w'' []) := fun w' v u t h1 h2 h3 => ver_any w' v u t pb oth sf h1 hpbb hpbl h2 hgb (by omega) h3 hsfb hsfl9
  have hv3 : Hid (∀ w' v u t, Old w' v pb → Old w' u oth → Old w' t sa → Calls Tryz.prog 18 #[v, u, t] w' fun e w'' => e = .returned (.int .i64 (verL pb oth sa)) ∧ Own w' w'' []) := fun w' v u t h1 h2 h3 => ver_any w' v u t pb oth sa h1 hpbb hpbl h2 hgb (by omega) h3 hsab hsal9
  have hr3 : Hid (∀ w' v u t, Old w' v pb → Old w' u oth → Old w' t sa → Calls Tryz.prog 20 #[v, u, t] w' fun e w'' => e = .returned (.int .i64 (verL pb oth sa)) ∧ Own w' w'' []) := fun w' v u t h1 h2 h3 => rver_any w' v u t pb oth sa h1 hpbb h2 hgb (by omega) h3 hsab
  have hv4 : Hid (∀ w' v u t, Old w' v pb → Old w' u msg → Old w' t sf → Calls Tryz.prog 18 #[v, u, t] w' fun e w'' => e = .returned (.int .i64 (verL pb msg sf)) ∧ Own w' w'' []) := fun w' v u t h1 h2 h3 => ver_any w' v u t pb msg sf h1 hpbb hpbl h2 hmb (by omega) h3 hsfb hsfl9
  have hr4 : Hid (∀ w' v u t, Old w' v pb → Old w' u msg → Old w' t sf → Calls Tryz.prog 20 #[v, u, t] w' fun e w'' => e = .returned (.int .i64 (verL pb msg sf)) ∧ Own w' w'' []) := fun w' v u t h1 h2 h3 => rver_any w' v u t pb msg sf h1 hpbb h2 hmb (by omega) h3 hsfb
  rw [v1] at hv1
  rw [v2] at hv2
  obtain ⟨V3, hV3⟩ : ∃ V, V = verL pb oth sa := ⟨_, rfl⟩
  obtain ⟨V4, hV4⟩ : ∃ V, V = verL pb msg sf := ⟨_, rfl⟩
  simp only [← hV3] at hv3 hr3
  simp only [← hV4] at hv4 hr4
  obtain ⟨n1, hn1, hn1l⟩ := rem_wrap at0 4460 (by omega) (by omega)
  have hn1l' : n1 < 4460 := by omega
  obtain ⟨z, hz⟩ : ∃ z, sa[n1]?.getD 0 = z := ⟨_, rfl⟩
  have hz0 : Hid (0 ≤ z ∧ z < 256) := by have := hsab n1 (by rw [hsal.out]; exact hn1l'); rw [hz] at this; exact this
  have hzg : Hid ((u8s sa)[n1]? = some (.int .u8 z)) := by show _ = _; rw [← hz]; exact ints_get (by rw [hsal.out]; exact hn1l')
  obtain ⟨ys, hys⟩ : ∃ ys, sa.set n1 (bits .xor .u8 z x1) = ys := ⟨_, rfl⟩
  have hys' := Lib.hid hys
  have hyl : Hid (ys.length = 4460) := by show _ = _; rw [← hys, List.length_set, hsal.out]
  have hyl9 : ys.length ≤ 1000000 := by rw [hyl.out]; omega
  have hyb : IsBytes ys := by rw [← hys]; exact isBytes_set4 hsab (xor_facts4 hz0.out hx1)
  obtain ⟨ct, hct⟩ : ∃ c, c = sa.take n1 := ⟨_, rfl⟩
  have hctl : ct.length = n1 := by rw [hct, List.length_take, hsal.out]; omega
  have hctb : IsBytes ct := by rw [hct]; exact isBytes_take hsab _
  have hct9 : ct.length ≤ 1000000 := by omega
  have v6 : verL pb msg ct = 3 := ver_cut (by omega) (by rw [hwd2, hctl, show sizeOfL 2 = 4460 from rfl]; omega)
  have hv5 : Hid (∀ w' v u t, Old w' v pb → Old w' u msg → Old w' t ys → Calls Tryz.prog 18 #[v, u, t] w' fun e w'' => e = .returned (.int .i64 (verL pb msg ys)) ∧ Own w' w'' []) := fun w' v u t h1 h2 h3 => ver_any w' v u t pb msg ys h1 hpbb hpbl h2 hmb (by omega) h3 hyb hyl9
  have hr5 : Hid (∀ w' v u t, Old w' v pb → Old w' u msg → Old w' t ys → Calls Tryz.prog 20 #[v, u, t] w' fun e w'' => e = .returned (.int .i64 (verL pb msg ys)) ∧ Own w' w'' []) := fun w' v u t h1 h2 h3 => rver_any w' v u t pb msg ys h1 hpbb h2 hmb (by omega) h3 hyb
  have hv6 : Hid (∀ w' v u t, Old w' v pb → Old w' u msg → Old w' t ct → Calls Tryz.prog 18 #[v, u, t] w' fun e w'' => e = .returned (.int .i64 (verL pb msg ct)) ∧ Own w' w'' []) := fun w' v u t h1 h2 h3 => ver_any w' v u t pb msg ct h1 hpbb hpbl h2 hmb (by omega) h3 hctb hct9
  rw [v6] at hv6
  obtain ⟨V5, hV5⟩ : ∃ V, V = verL pb msg ys := ⟨_, rfl⟩
  simp only [← hV5] at hv5 hr5
  have hcto : Hid (∀ w' g o c, 4460 ≤ c → Old w' (.slice (some ⟨g, o, none⟩) 4460 c) sa → Old w' (.slice (some ⟨g, o, none⟩) n1 c) ct) := fun w' g o c h1 h2 => by
    rw [hct]
    exact h2.to hsal.out.symm (by omega) h1 (by omega)
  have hOw := Lib.hid hO
  have hSw := Lib.hid hS
  clear hO hmb hn hS hgb hmn h16 h32 h48 hidb v1 v2 hsab hsfb hsal9 hsfl9 hpbb hwd2 hpbl hsa0 hsf0 hpb0 hV3 hV4 hp hq hz hys hyl9 hyb hct hctl hctb hct9 v6 hV5 hn1l
  go_enter Tryz.func5, Tryz.ntmps5
  have tok1 : True := trivial
  go_wp2_with (first
    | (clear tok1; refine st_new rfl (rn_box (cs := u8s (id ++ seed)) H rfl rfl rfl) ?_; clear H; intro b7 w1 hb7 H; have tok2 : True := trivial)
    | (clear tok2; refine st_val rfl (rn_loadAll (cs := u8s (id ++ seed)) H rfl rfl (.head _) rfl rfl hsz48.out) ?_; have tok3 : True := trivial)
    | (clear tok3; go_at_call 9; refine (hnw.out _).mono ?_; rintro e w2 ⟨bt, rfl, hbt, h3⟩; have hbt0 := Nat.le_trans H.size hbt; have H2 := H.callNew h3 hbt; have M2 := Lib.hid (hOw.out.mv H2 (by simp; omega)); have S2 := Lib.hid (hSw.out.mv H2 (by simp; omega)); have MN : ∀ k, blk (Value.slice pm n cm) = some k → k ≠ bt := (fun k hk => by have := hOw.out.2 k hk; omega); have SN := Lib.hid (show ∀ k, blk (Value.slice ps m cs) = some k → k ≠ bt from fun k hk => by have := hSw.out.2 k hk; omega); clear H h3; have H := H2; clear H2; have tok4 : True := trivial)
    | (clear tok4; go_at_call 15; refine (hsg.out _ bt (H.sub1 (.head _)) M2.out MN).mono ?_; rintro e w5 ⟨ag, ao, ac, rfl, hac, hA, hag, h3⟩; have H2 := Own.next (L := [_]) H h3 rfl; have A5 := Lib.hid hA; have T5 := Lib.hid (TreeAt.of h3); have HW := Lib.hid (H2.end0 (by simp; omega)); have M5 := Lib.hid (M2.out.mv1 h3 MN); have S5 := Lib.hid (S2.out.mv1 h3 SN.out); clear H h3 hA MN M2 S2 H2; have H := Own.refl w5; have tok5 : True := trivial)
    | (clear tok5; go_at_call 15; refine (hsf.out _ bt T5.out S5.out SN.out).mono ?_; rintro e w6 ⟨fg, fo, fc, rfl, hfc, hF, hfg, h3⟩; have F6 := Lib.hid hF; have T6 := Lib.hid (T5.out.mv h3 (by simp)); have HW2 := Lib.hid (HW.out.trans h3); have A6 := Lib.hid (A5.out.mv h3 (by simp)); have M6 := Lib.hid (M5.out.mv h3 (by simp)); have S6 := Lib.hid (S5.out.mv h3 (by simp)); clear H h3 hF HW A5 T5 M5 S5 SN; have H := Own.refl w6; have tok6 : True := trivial)
    | (clear tok6; go_at_call 12; refine (hpu.out _ bt T6.out).mono ?_; rintro e w7 ⟨pg, po, pc, rfl, hpc, hP, h3⟩; have P7 := Lib.hid hP; have HW := Lib.hid (HW2.out.trans h3); have A5 := Lib.hid (A6.out.mv h3 (by simp)); have F5 := Lib.hid (F6.out.mv h3 (by simp)); have M5 := Lib.hid (M6.out.mv h3 (by simp)); have S5 := Lib.hid (S6.out.mv h3 (by simp)); clear H h3 hP HW2 A6 F6 M6 S6 T6; have F6 := F5; clear F5; have H := Own.refl w7; have tok7 : True := trivial)
    | (clear tok7; go_at_call 18; refine (hv1.out _ _ _ _ (P7.out.mv H (by simp)) (M5.out.mv H (by simp)) (A5.out.mv H (by simp))).mono ?_; rintro e w8 ⟨rfl, h3⟩; have H2 := H.call0 h3; clear H h3; have H := H2; clear H2; have tok8 : True := trivial)
    | (clear tok8; go_at_call 18; refine (hv2.out _ _ _ _ (P7.out.mv H (by simp)) (S5.out.mv H (by simp)) (F6.out.mv H (by simp))).mono ?_; rintro e w9 ⟨rfl, h3⟩; have H2 := H.call0 h3; clear H h3; have H := H2; clear H2; have tok9 : True := trivial)
    | (clear tok9; go_at_call 18; refine (hv3.out _ _ _ _ (P7.out.mv H (by simp)) (S5.out.mv H (by simp)) (A5.out.mv H (by simp))).mono ?_; rintro e w10 ⟨rfl, h3⟩; have H2 := H.call0 h3; clear H h3; have H := H2; clear H2; have tok10 : True := trivial)
    | (clear tok10; go_at_call 20; refine (hr3.out _ _ _ _ (P7.out.mv H (by simp)) (S5.out.mv H (by simp)) (A5.out.mv H (by simp))).mono ?_; rintro e w11 ⟨rfl, h3⟩; have H2 := H.call0 h3; clear H h3; have H := H2; clear H2; have tok11 : True := trivial)
    | (clear tok11; go_at_call 18; refine (hv4.out _ _ _ _ (P7.out.mv H (by simp)) (M5.out.mv H (by simp)) (F6.out.mv H (by simp))).mono ?_; rintro e w12 ⟨rfl, h3⟩; have H2 := H.call0 h3; clear H h3; have H := H2; clear H2; have tok12 : True := trivial)
    | (clear tok12; go_at_call 20; refine (hr4.out _ _ _ _ (P7.out.mv H (by simp)) (M5.out.mv H (by simp)) (F6.out.mv H (by simp))).mono ?_; rintro e w13 ⟨rfl, h3⟩; have H2 := H.call0 h3; clear H h3; have H := H2; clear H2; have tok13 : True := trivial)
    | (clear tok13; refine st_new rfl (rn_buildSlice (e := 5) (cs := []) (Own.refl w13) rfl (fun w' => by kernel_rfl)) ?_; intro b5 w25 hb5 M; have E := BufV.lit (n := 0) (sz := 1) M hb5 rfl (by omega); clear M hb5; have H4 := Lib.hid H; have A24 := Lib.hid (A5.out.mv H (by simp)); clear H; have tok14 : True := trivial)
    | (clear tok14; refine st_appV rfl E elem_u8 rfl rfl rfl rfl (m := 4460) (ds := u8s sa) (by have := (A24.out.mv E.own0 (by simp)).1; rw [BytesAt, hsal.out] at this; exact this) (by rw [length_ints, Nat.mul_one]; exact hsal.out) (oneCell_ints _ _) (by omega) (by omega) ?_; clear E; intro p6 c6 w26 E; rw [List.nil_append] at E; obtain ⟨g, hg⟩ := E.addr (by omega); subst hg; rw [Nat.zero_add] at E; rw [Nat.zero_add]; have tok15 : True := trivial)
    | (clear tok15; refine st_val rfl (rn_cell rfl rfl rfl rfl (E.cellAt4 hzg.out)) ?_; have tok16 : True := trivial)
    | (clear tok16; refine st_storeV (i := n1) (u := .int .u8 (bits .xor .u8 z x1)) rfl E rfl rfl rfl (by kernel_rfl) (by omega) rfl ?_; clear E; intro w27 E; rw [← ints_set, hys'.out] at E; have Y7 := Lib.hid (show Old w27 (.slice (some ⟨g, 0, none⟩) 4460 c6) ys from ⟨by rw [BytesAt, hyl.out]; exact E.slAt, E.lt⟩); have H := H4.out.trans E.own0; have HR := Lib.hid (HW.out.trans H); have M7 := Lib.hid (M5.out.mv H (by simp)); have P8 := Lib.hid (P7.out.mv H (by simp)); have A7 := Lib.hid (hcto.out _ _ _ _ hac (A5.out.mv H (by simp))); clear E H HW; have H := Own.refl w27; have tok17 : True := trivial)
    | (clear tok17; go_at_call 8; refine (hto.out _).mono ?_; rintro e w28 ⟨rfl, h3⟩; have H2 := H.call0 h3; clear H h3; have H := H2; clear H2; have tok18 : True := trivial)
    | (clear tok18; go_at_call 18; refine (hv5.out _ _ _ _ (P8.out.mv H (by simp)) (M7.out.mv H (by simp)) (Y7.out.mv H (by simp))).mono ?_; rintro e w29 ⟨rfl, h3⟩; have H2 := H.call0 h3; clear H h3; have H := H2; clear H2; have tok19 : True := trivial)
    | (clear tok19; go_at_call 20; refine (hr5.out _ _ _ _ (P8.out.mv H (by simp)) (M7.out.mv H (by simp)) (Y7.out.mv H (by simp))).mono ?_; rintro e w30 ⟨rfl, h3⟩; have H2 := H.call0 h3; clear H h3; have H := H2; clear H2; have tok20 : True := trivial)
    | (clear tok20; refine st_valG rfl (rn_to (h := n1) rfl rfl size_u8 rfl (by exact .yes rfl) (by omega) hac) ?_; have tok21 : True := trivial)
    | (clear tok21; go_at_call 18; refine (hv6.out _ _ _ _ (P8.out.mv H (by simp)) (M7.out.mv H (by simp)) (A7.out.mv H (by simp))).mono ?_; rintro e w31 ⟨rfl, h3⟩; have H2 := H.call0 h3; clear H h3; have H := H2; clear H2; have tok22 : True := trivial))
  have HE := Lib.hid (HR.out.trans H)
  clear H
  go_ret
  exact ⟨rfl, HE.out⟩

set_option maxRecDepth 100000 in
set_option maxHeartbeats 8000000 in
theorem lmsHolds_row (w : World) (ss : List Int) (h48 : ss.length = 48) (hsb : ∀ i, i < ss.length → 0 ≤ ss[i]?.getD 0 ∧ ss[i]?.getD 0 < 256) (p0 : Int) (_ : IntKind.i64.min ≤ p0) (_ : p0 ≤ IntKind.i64.max) (q0 : Int) (_ : IntKind.i64.min ≤ q0) (_ : q0 ≤ IntKind.i64.max)
    (mv : Value) (msg : List Int) (hm : BytesAt w mv msg) (hml : ∀ k, blk mv = some k → k < w.heap.size) (hmb : ∀ i, i < msg.length → 0 ≤ msg[i]?.getD 0 ∧ msg[i]?.getD 0 < 256)
    (sv : Value) (oth : List Int) (hs : BytesAt w sv oth) (hsl : ∀ k, blk sv = some k → k < w.heap.size) (hgb : ∀ i, i < oth.length → 0 ≤ oth[i]?.getD 0 ∧ oth[i]?.getD 0 < 256)
    (at0 : Int) (_ : IntKind.i64.min ≤ at0) (_ : at0 ≤ IntKind.i64.max) (x1 : Int) (hx1 : IntKind.u8.min ≤ x1) (hx2 : x1 ≤ IntKind.u8.max) :
    Calls Tryz.prog 5 #[.agg (u8s ss).toArray, .int .i64 p0, .int .i64 q0, mv, sv, .int .i64 at0, .int .u8 x1] w fun e w' => e = .returned (.bool true) ∧ Own w w' [] := by
  rename_i q1 q2 q3 q4 q5 q6
  clear q1 q2 q3 q4 q5 q6
  have hx3 : 0 ≤ x1 ∧ x1 < 256 := by
    have e1 : IntKind.u8.min = 0 := by decide
    have e2 : IntKind.u8.max = 255 := by decide
    rw [e1] at hx1
    rw [e2] at hx2
    omega
  clear hx1 hx2
  have H := Own.refl w
  have hO : Old w mv msg := ⟨hm, hml⟩
  have hS : Old w sv oth := ⟨hs, hsl⟩
  obtain ⟨pm, cm, rfl⟩ := hO.shape
  obtain ⟨ps, cs, rfl⟩ := hS.shape
  obtain ⟨n, hn⟩ : ∃ n, n = msg.length := ⟨_, rfl⟩
  obtain ⟨m, hmn⟩ : ∃ n, n = oth.length := ⟨_, rfl⟩
  rw [← hn] at hO ⊢
  rw [← hmn] at hS ⊢
  obtain ⟨id, seed, rfl, h16, h32⟩ := split48 h48
  have hidb : IsBytes id := isBytes_left hsb
  have hto := Lib.hid ltold_any
  by_cases hbig : 60 < n
  · clear hm hml hmb hO hn h48 h16 h32 hs hsl hgb hS hmn hsb hidb hx3
    go_enter Tryz.func5, Tryz.ntmps5
    have tok1 : True := trivial
    go_wp2_with (first
      | (clear tok1; refine st_new rfl (rn_box (cs := u8s (id ++ seed)) H rfl rfl rfl) ?_; clear H; intro b7 w1 hb7 H; have tok2 : True := trivial)
      | (clear tok2; go_at_call 8; refine (hto.out _).mono ?_; rintro e w2 ⟨rfl, h3⟩; have H2 := H.call0 h3; clear H h3; have H := H2; clear H2; have tok3 : True := trivial))
    have h1 := Lib.hid (H.end0 (by simpa using hb7))
    clear H
    go_ret
    exact ⟨rfl, h1.out⟩
  by_cases hbig2 : 60 < m
  · have hbig' : n ≤ 60 := by omega
    clear hm hml hmb hO hn h48 h16 h32 hs hsl hgb hS hmn hbig hsb hidb hx3
    go_enter Tryz.func5, Tryz.ntmps5
    have tok1 : True := trivial
    go_wp2_with (first
      | (clear tok1; refine st_new rfl (rn_box (cs := u8s (id ++ seed)) H rfl rfl rfl) ?_; clear H; intro b7 w1 hb7 H; have tok2 : True := trivial)
      | (clear tok2; go_at_call 8; refine (hto.out _).mono ?_; rintro e w2 ⟨rfl, h3⟩; have H2 := H.call0 h3; clear H h3; have H := H2; clear H2; have tok3 : True := trivial))
    have h1 := Lib.hid (H.end0 (by simpa using hb7))
    clear H
    go_ret
    exact ⟨rfl, h1.out⟩
  by_cases hx0 : x1 = 0
  · exact lmsHolds_0 w id seed h16 h32 hidb p0 q0 at0 x1 hx3 pm ps n m cm cs msg oth hO hmb hn (by omega) hS hgb hmn (by omega) hx0
  · exact lmsHolds_1 w id seed h16 h32 hidb p0 q0 at0 x1 hx3 pm ps n m cm cs msg oth hO hmb hn (by omega) hS hgb hmn (by omega) hx0

end Go.Proofs.YtfihlmnbonnekaaGreat
