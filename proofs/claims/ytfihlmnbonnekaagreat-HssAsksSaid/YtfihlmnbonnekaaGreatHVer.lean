/- hss: Verify. -/
import Derived.Test.YtfihlmnbonnekaaGreatHNew
namespace Go.Proofs.YtfihlmnbonnekaaGreat
open Go.RowKit
set_option maxHeartbeats 32000000
set_option linter.unusedVariables false
theorem Own.self1 {w0 w : World} {L : List Ent} (h : Own w0 w L) : Own w w L := ⟨rfl, rfl, rfl, Nat.le_refl _, fun _ _ _ => rfl, h.nodup, h.here⟩
theorem Own.callU {w0 w w' : World} {b : Nat} {cs : List Value} {T : TypeId} (h : Own w0 w []) (hu : Own w w' [(b, cs, T)]) (hb : w0.heap.size ≤ b) : Own w0 w' [(b, cs, T)] := by
 refine ⟨hu.os.trans h.os, hu.tape.trans h.tape, hu.output.trans h.output, Nat.le_trans h.size hu.size, fun k hk hn => ?_, hu.nodup, hu.here⟩
 rw [hu.keep k (Nat.lt_of_lt_of_le hk h.size) hn, h.keep k hk (by simp)]
set_option maxRecDepth 100000 in
theorem rdLeft0 (w : World) (r : Nat) (B : Nat → Prop) (xs : List Int) (cs : List Value) (H : Own w w [(r, cs, 130)]) (hR : RdAt w r B xs false cs) :
 Calls Tryz.prog 60 #[.pointer (some ⟨r, 0, none⟩)] w fun e w' => e = .returned (.int .i64 (xs.length : Nat)) ∧ Own w w' [(r, cs, 130)] := by
 obtain ⟨p, c, rfl, h2, h3⟩ := hR
 have hr := Hh (right_ok w r _ c 0 p H (Nat.zero_le _))
 have hcl : Hid (∀ w', Own w w' [(r, [.slice p xs.length c, .bool false], 130)] → w'.cell? ⟨r, 0, none⟩ = some (.slice p xs.length c)) := fun w' h => h.cell (.head _) 0
 clear H h2 h3
 go_enter Tryz.func60, Tryz.ntmps60
 go_wp2_with (first
  | (go_at_call 80; refine hr.out.mono ?_; rintro e w1 ⟨rfl, h⟩; have H := Hh h; clear h)
  | (refine st_val rfl (rn_cell rfl rfl rfl rfl (hcl.out _ H.out)) ?_))
 go_ret
 exact ⟨rfl, H.out⟩
theorem rdLeft (w : World) (r : Nat) (B : Nat → Prop) (xs : List Int) (cs : List Value) (H : Own w w [(r, cs, 130)]) (hR : RdAt w r B xs false cs) :
 Calls Tryz.prog 60 #[.pointer (some ⟨r, 0, none⟩)] w fun e w' => e = .returned (.int .i64 (xs.length : Nat)) ∧ RdAt w' r B xs false cs ∧ Own w w' [(r, cs, 130)] :=
 (rdLeft0 w r B xs cs H hR).mono fun _ w' ⟨h1, h2⟩ => by
   obtain ⟨p, c, rfl, h3, h4⟩ := hR
   exact ⟨h1, ⟨p, c, rfl, SlAt.own h3 h2 (fun k hk hm2 => by have := h4 k hk; simp at hm2; omega), fun k hk => ⟨(h4 k hk).1, (h4 k hk).2.1, Nat.lt_of_lt_of_le (h4 k hk).2.2 h2.size⟩⟩, h2⟩
theorem rdNum1 (w : World) (r : Nat) (B : Nat → Prop) (xs : List Int) (cs : List Value) (H : Own w w [(r, cs, 130)]) (hR : RdAt w r B xs false cs) (hb : IsBytes xs) (hl : xs.length ≤ 1000000) :
 Calls Tryz.prog 49 #[.pointer (some ⟨r, 0, none⟩), .int .i64 4] w fun e w' => e = .returned (.int .u64 (num4V xs false)) ∧ ∃ cs', RdAt w' r B (num4X xs false) (num4W xs false) cs' ∧ Own w w' [(r, cs', 130)] := rdNum_any w w r B xs false cs [] H hR hb hl
theorem rdRaw1 (w : World) (r m : Nat) (B : Nat → Prop) (xs : List Int) (cs : List Value) (H : Own w w [(r, cs, 130)]) (hR : RdAt w r B xs false cs) (hl : xs.length ≤ 1000000) (hm : m ≤ xs.length) :
 Calls Tryz.prog 50 #[.pointer (some ⟨r, 0, none⟩), .int .i64 m] w fun e w' => ∃ p c cs', e = .returned (.slice p m c) ∧ Old w' (.slice p m c) (xs.take m) ∧ NewS (r + 1) (.slice p m c) ∧ RdAt w' r B (xs.drop m) false cs' ∧ Own w w' [(r, cs', 130)] :=
 (rdRawOk w w r m B xs cs [] H hR hl hm).mono fun _ _ ⟨p, c, cs', h1, h2, h3, _, h5, h6⟩ => ⟨p, c, cs', h1, h2, h3, h5, h6⟩
theorem rdRaw0 (w : World) (r m : Nat) (B : Nat → Prop) (xs : List Int) (wr : Bool) (cs : List Value) (H : Own w w [(r, cs, 130)]) (hR : RdAt w r B xs wr cs) (hm : wr = true ∨ xs.length < m) :
 Calls Tryz.prog 50 #[.pointer (some ⟨r, 0, none⟩), .int .i64 m] w fun e w' => ∃ cs', e = .returned (.slice none 0 0) ∧ RdAt w' r B xs true cs' ∧ Own w w' [(r, cs', 130)] := by
 obtain ⟨p, c, rfl, h2, h3⟩ := hR
 refine (rraw_bad w r _ c m p wr H hm).mono fun _ _ ⟨h4, h5⟩ => ⟨_, h4, ⟨p, c, rfl, SlAt.own h2 h5 (fun k hk hm2 => by have := h3 k hk; simp at hm2; omega), fun k hk => ⟨(h3 k hk).1, (h3 k hk).2.1, Nat.lt_of_lt_of_le (h3 k hk).2.2 h5.size⟩⟩, h5⟩
theorem verL_01 {pub msg sig : List Int} (h : widthL pub ≠ 0) : verL pub msg sig = 0 ∨ verL pub msg sig = 3 := by
 unfold verL verK
 rw [if_neg h]
 repeat' split
 all_goals first | exact Or.inl rfl | exact Or.inr rfl
def hverL (pub msg sig : List Int) : Int :=
 if pub.length = 60 ∧ (num4V pub false = 1 ∨ num4V pub false = 2) ∧ widthL (pub.drop 4) ≠ 0 then
  if 4 ≤ sig.length ∧ num4V sig false = num4V pub false - 1 then
   if num4V pub false = 1 then verL (pub.drop 4) msg (sig.drop 4)
   else if sizeOfL (widthL (pub.drop 4)) + 56 ≤ (sig.drop 4).length ∧ widthL (((sig.drop 4).drop (sizeOfL (widthL (pub.drop 4)))).take 56) ≠ 0 ∧ verL (pub.drop 4) (((sig.drop 4).drop (sizeOfL (widthL (pub.drop 4)))).take 56) ((sig.drop 4).take (sizeOfL (widthL (pub.drop 4)))) = 0 then
    verL (((sig.drop 4).drop (sizeOfL (widthL (pub.drop 4)))).take 56) msg (((sig.drop 4).drop (sizeOfL (widthL (pub.drop 4)))).drop 56)
   else 3
  else 3
 else 2
theorem isBytes_dropH {xs : List Int} (h : IsBytes xs) (n : Nat) : IsBytes (xs.drop n) := isBytes_mem.2 fun x hx => isBytes_mem.1 h x (List.mem_of_mem_drop hx)
theorem Old.drop4 {w : World} {b off c : Nat} {xs : List Int} (h : Old w (.slice (some ⟨b, off, none⟩) 60 c) xs) (hn : 60 = xs.length) (hc : 60 ≤ c) : Old w (.slice (some ⟨b, off + 4, none⟩) 56 (c - 4)) (xs.drop 4) := by
 have := Old.part (l := 4) (m := 56) (d := c - 4) h hn (by omega) (by omega) (by omega)
 rwa [List.take_of_length_le (by rw [List.length_drop]; omega)] at this
set_option maxRecDepth 100000 in
theorem hver_len (w : World) (pv mv sv : Value) (pub msg sig : List Int) (hp : Old w pv pub) (hpb : IsBytes pub) (hpl : pub.length ≤ 1000000) (hne : pub.length ≠ 60) :
 Calls Tryz.prog 30 #[pv, mv, sv] w fun e w' => e = .returned (.int .i64 2) ∧ Own w w' [] := by
 obtain ⟨pp, cp, rfl⟩ := hp.shape
 have hN1 : Hid (Calls Tryz.prog 48 #[.slice pp pub.length cp] w fun e w' => ∃ r cs, e = .returned (.pointer (some ⟨r, 0, none⟩)) ∧ w.heap.size ≤ r ∧ RdAt w' r (w.heap.size ≤ ·) pub false cs ∧ Own w w' [(r, cs, 130)]) := (rnew_any w _ pub hp hpl).mono fun _ _ ⟨r, p, c, h1, h2, h3, h4, h5⟩ => ⟨r, _, h1, h2, RdAt.start h3 h4, h5⟩
 have hM1 : Hid (∀ w' r cs, Own w' w' [(r, cs, 130)] → RdAt w' r (w.heap.size ≤ ·) pub false cs → Calls Tryz.prog 49 #[.pointer (some ⟨r, 0, none⟩), .int .i64 4] w' fun e w'' => e = .returned (.int .u64 (num4V pub false)) ∧ ∃ cs', Own w' w'' [(r, cs', 130)]) := fun w' r cs h1 h2 => (rdNum1 w' r _ pub cs h1 h2 hpb hpl).mono fun _ _ ⟨h3, cs', _, h4⟩ => ⟨h3, cs', h4⟩
 obtain ⟨hT0, hT1⟩ := num4V_range hpb false
 obtain ⟨T, hT⟩ : ∃ T, T = num4V pub false := ⟨_, rfl⟩
 rw [← hT] at hM1 hT0 hT1
 obtain ⟨n, hn⟩ : ∃ n, n = pub.length := ⟨_, rfl⟩
 rw [← hn] at hN1 hne ⊢
 have hne2 : (n == 60) = false := by simpa using hne
 have hne3 : ((n : Int) == 60) = false := by simp; omega
 have hne4 : ((n : Int) != 60) = true := by simp; omega
 clear hp hpb hpl hT hn
 go_enter Tryz.func30, Tryz.ntmps30
 have z1 := tt
 go_wp2_with (first
  | (clear z1; go_at_call 48; refine hN1.out.mono ?_; rintro e w1 ⟨r, cs, rfl, hr, R, H1⟩; have z2 := tt)
  | (clear z2; go_at_call 49; refine (hM1.out _ r cs H1.self1 R).mono ?_; rintro e w2 ⟨rfl, cs2, h3⟩; have H := (Own.next (L := [_]) (M := []) H1 h3 rfl).end0 (by simpa using hr); clear R H1 h3; have z3 := tt))
 have HE := Hh H
 clear H
 go_ret
 exact ⟨rfl, HE.out⟩
set_option maxRecDepth 100000 in
theorem hver_sig1 (w : World) (pv mv sv : Value) (pub msg sig : List Int) (hp : Old w pv pub) (hpb : IsBytes pub) (hm : Old w mv msg) (hmb : IsBytes msg) (hml : msg.length ≤ 90000) (hs : Old w sv sig) (hsb : IsBytes sig) (hsl : sig.length ≤ 1000000) (hpl : pub.length ≤ 1000000) (h60 : pub.length = 60) (hl : num4V pub false = 1) (hw : widthL (pub.drop 4) ≠ 0) (hS : num4V sig false ≠ 0) :
 Calls Tryz.prog 30 #[pv, mv, sv] w fun e w' => e = .returned (.int .i64 3) ∧ Own w w' [] := by
 obtain ⟨pp, cp, rfl⟩ := hp.shape
 have hN1 : Hid (Calls Tryz.prog 48 #[.slice pp pub.length cp] w fun e w' => ∃ r cs, e = .returned (.pointer (some ⟨r, 0, none⟩)) ∧ w.heap.size ≤ r ∧ RdAt w' r (w.heap.size ≤ ·) pub false cs ∧ Own w w' [(r, cs, 130)]) := (rnew_any w _ pub hp hpl).mono fun _ _ ⟨r, p, c, h1, h2, h3, h4, h5⟩ => ⟨r, _, h1, h2, RdAt.start h3 h4, h5⟩
 have hM1 : Hid (∀ w' r cs, Own w' w' [(r, cs, 130)] → RdAt w' r (w.heap.size ≤ ·) pub false cs → Calls Tryz.prog 49 #[.pointer (some ⟨r, 0, none⟩), .int .i64 4] w' fun e w'' => e = .returned (.int .u64 (num4V pub false)) ∧ ∃ cs', Own w' w'' [(r, cs', 130)]) := fun w' r cs h1 h2 => (rdNum1 w' r _ pub cs h1 h2 hpb hpl).mono fun _ _ ⟨h3, cs', _, h4⟩ => ⟨h3, cs', h4⟩
 obtain ⟨hT0, hT1⟩ := num4V_range hpb false
 obtain ⟨bp, op, cp0, e1, hcp⟩ := hp.at0 (by omega)
 obtain ⟨rfl, rfl⟩ : pp = some ⟨bp, op, none⟩ ∧ cp = cp0 := by cases e1; exact ⟨rfl, rfl⟩
 rw [h60] at hN1 hp hcp e1 ⊢
 have hK := Hh (hp.drop4 h60.symm hcp)
 rw [hl] at hM1
 obtain ⟨key, hkey⟩ : ∃ k, k = pub.drop 4 := ⟨_, rfl⟩
 have hkb : IsBytes key := by rw [hkey]; exact isBytes_dropH hpb 4
 have hkl : key.length = 56 := by rw [hkey, List.length_drop, h60]
 rw [← hkey] at hK
 have hmn := Hh many_1
 rw [← hkey] at hw
 have hfo : Hid (∀ w' v, Old w' v key → Calls Tryz.prog 19 #[v] w' fun e w'' => e = .returned (.bool true) ∧ Own w' w'' []) := fun w' v h => by
  have h1 := form_any w' v key h hkb (by omega)
  rwa [show decide (0 < widthL key) = true from decide_eq_true (by omega)] at h1
 obtain ⟨ps, cs0, rfl⟩ := hs.shape
 have hsO := Hh hs
 have hN2 : Hid (∀ w', Own w w' [] → Calls Tryz.prog 48 #[.slice ps sig.length cs0] w' fun e w'' => ∃ r cs, e = .returned (.pointer (some ⟨r, 0, none⟩)) ∧ w'.heap.size ≤ r ∧ RdAt w'' r (w.heap.size ≤ ·) sig false cs ∧ Own w' w'' [(r, cs, 130)]) := fun w' h => (rnew_any w' _ sig (hsO.out.mv h (by simp)) hsl).mono fun _ _ ⟨r, p, c, h1, h2, h3, h4, h5⟩ => ⟨r, _, h1, h2, (RdAt.start h3 h4).of (fun k _ hk => Nat.le_trans h.size hk), h5⟩
 have hM2 : Hid (∀ w' r cs, Own w' w' [(r, cs, 130)] → RdAt w' r (w.heap.size ≤ ·) sig false cs → Calls Tryz.prog 49 #[.pointer (some ⟨r, 0, none⟩), .int .i64 4] w' fun e w'' => e = .returned (.int .u64 (num4V sig false)) ∧ ∃ cs', RdAt w'' r (w.heap.size ≤ ·) (num4X sig false) (num4W sig false) cs' ∧ Own w' w'' [(r, cs', 130)]) := fun w' r cs h1 h2 => rdNum1 w' r _ sig cs h1 h2 hsb hsl
 obtain ⟨hS0, hS1⟩ := num4V_range hsb false
 obtain ⟨S, hS2⟩ : ∃ S, S = num4V sig false := ⟨_, rfl⟩
 rw [← hS2] at hM2 hS hS0 hS1
 obtain ⟨n, hn⟩ : ∃ n, n = sig.length := ⟨_, rfl⟩
 rw [← hn] at hN2 ⊢
 have hSe : (S == 0) = false := by simpa using hS
 have hSf : (S != 0) = true := by simpa using hS
 clear hp hpb hpl hT0 hT1 hl hw h60 e1 hkey hkb hkl hm hmb hml hs hsb hsl hS2 hn hS hsO
 go_enter Tryz.func30, Tryz.ntmps30
 have z1 := tt
 go_wp2_with (first
  | (clear z1; go_at_call 48; refine hN1.out.mono ?_; rintro e w1 ⟨r, cs, rfl, hr, R, H1⟩; have z2 := tt)
  | (clear z2; go_at_call 49; refine (hM1.out _ r cs H1.self1 R).mono ?_; rintro e w2 ⟨rfl, cs2, h3⟩; have H := (Own.next (L := [_]) (M := []) H1 h3 rfl).end0 (by simpa using hr); clear R H1 h3; have z3 := tt)
  | (clear z3; go_at_call 25; refine (hmn.out _).mono ?_; rintro e w3 ⟨rfl, h3⟩; replace H := H.call0 h3; clear h3; have z4 := tt)
  | (clear z4; refine st_valG rfl (rn_part (l := 4) (h := 60) (m := 56) (d := cp - 4) rfl rfl size_u8 rfl (by exact .yes rfl) (by exact .no _) (by omega) (by omega) hcp rfl rfl) ?_; have z5 := tt)
  | (clear z5; go_at_call 19; refine (hfo.out _ _ (hK.out.mv H (by simp))).mono ?_; rintro e w4 ⟨rfl, h3⟩; replace H := H.call0 h3; clear h3; have z6 := tt)
  | (refine st_val rfl (rn_part (l := 4) (h := 60) (m := 56) (d := cp - 4) rfl rfl size_u8 rfl (by exact .yes rfl) (by exact .no _) (by omega) (by omega) hcp rfl rfl) ?_)
  | (clear z6; go_at_call 48; refine (hN2.out _ H).mono ?_; rintro e w5 ⟨x, cx, rfl, hx, R, H1⟩; have hx0 := Nat.le_trans H.size hx; have HB := Hh H; clear H; have z7 := tt)
  | (clear z7; go_at_call 49; refine (hM2.out _ x cx H1.self1 R).mono ?_; rintro e w6 ⟨rfl, cx2, R6, h3⟩; have H6 := Own.next (L := [_]) (M := []) H1 h3 rfl; clear R H1 h3; have H := Hh (Own.callU HB.out H6 hx0); have R := Hh R6; clear R6 H6 HB; have z8 := tt))
 have HE := Hh (H.out.end0 (by simpa using hx0))
 go_ret
 exact ⟨rfl, HE.out⟩
set_option maxRecDepth 100000 in
theorem hver_sig2 (w : World) (pv mv sv : Value) (pub msg sig : List Int) (hp : Old w pv pub) (hpb : IsBytes pub) (hm : Old w mv msg) (hmb : IsBytes msg) (hml : msg.length ≤ 90000) (hs : Old w sv sig) (hsb : IsBytes sig) (hsl : sig.length ≤ 1000000) (hpl : pub.length ≤ 1000000) (h60 : pub.length = 60) (hl : num4V pub false = 2) (hw : widthL (pub.drop 4) ≠ 0) (hS : num4V sig false ≠ 1) :
 Calls Tryz.prog 30 #[pv, mv, sv] w fun e w' => e = .returned (.int .i64 3) ∧ Own w w' [] := by
 obtain ⟨pp, cp, rfl⟩ := hp.shape
 have hN1 : Hid (Calls Tryz.prog 48 #[.slice pp pub.length cp] w fun e w' => ∃ r cs, e = .returned (.pointer (some ⟨r, 0, none⟩)) ∧ w.heap.size ≤ r ∧ RdAt w' r (w.heap.size ≤ ·) pub false cs ∧ Own w w' [(r, cs, 130)]) := (rnew_any w _ pub hp hpl).mono fun _ _ ⟨r, p, c, h1, h2, h3, h4, h5⟩ => ⟨r, _, h1, h2, RdAt.start h3 h4, h5⟩
 have hM1 : Hid (∀ w' r cs, Own w' w' [(r, cs, 130)] → RdAt w' r (w.heap.size ≤ ·) pub false cs → Calls Tryz.prog 49 #[.pointer (some ⟨r, 0, none⟩), .int .i64 4] w' fun e w'' => e = .returned (.int .u64 (num4V pub false)) ∧ ∃ cs', Own w' w'' [(r, cs', 130)]) := fun w' r cs h1 h2 => (rdNum1 w' r _ pub cs h1 h2 hpb hpl).mono fun _ _ ⟨h3, cs', _, h4⟩ => ⟨h3, cs', h4⟩
 obtain ⟨hT0, hT1⟩ := num4V_range hpb false
 obtain ⟨bp, op, cp0, e1, hcp⟩ := hp.at0 (by omega)
 obtain ⟨rfl, rfl⟩ : pp = some ⟨bp, op, none⟩ ∧ cp = cp0 := by cases e1; exact ⟨rfl, rfl⟩
 rw [h60] at hN1 hp hcp e1 ⊢
 have hK := Hh (hp.drop4 h60.symm hcp)
 rw [hl] at hM1
 obtain ⟨key, hkey⟩ : ∃ k, k = pub.drop 4 := ⟨_, rfl⟩
 have hkb : IsBytes key := by rw [hkey]; exact isBytes_dropH hpb 4
 have hkl : key.length = 56 := by rw [hkey, List.length_drop, h60]
 rw [← hkey] at hK
 have hmn := Hh many_2
 rw [← hkey] at hw
 have hfo : Hid (∀ w' v, Old w' v key → Calls Tryz.prog 19 #[v] w' fun e w'' => e = .returned (.bool true) ∧ Own w' w'' []) := fun w' v h => by
  have h1 := form_any w' v key h hkb (by omega)
  rwa [show decide (0 < widthL key) = true from decide_eq_true (by omega)] at h1
 obtain ⟨ps, cs0, rfl⟩ := hs.shape
 have hsO := Hh hs
 have hN2 : Hid (∀ w', Own w w' [] → Calls Tryz.prog 48 #[.slice ps sig.length cs0] w' fun e w'' => ∃ r cs, e = .returned (.pointer (some ⟨r, 0, none⟩)) ∧ w'.heap.size ≤ r ∧ RdAt w'' r (w.heap.size ≤ ·) sig false cs ∧ Own w' w'' [(r, cs, 130)]) := fun w' h => (rnew_any w' _ sig (hsO.out.mv h (by simp)) hsl).mono fun _ _ ⟨r, p, c, h1, h2, h3, h4, h5⟩ => ⟨r, _, h1, h2, (RdAt.start h3 h4).of (fun k _ hk => Nat.le_trans h.size hk), h5⟩
 have hM2 : Hid (∀ w' r cs, Own w' w' [(r, cs, 130)] → RdAt w' r (w.heap.size ≤ ·) sig false cs → Calls Tryz.prog 49 #[.pointer (some ⟨r, 0, none⟩), .int .i64 4] w' fun e w'' => e = .returned (.int .u64 (num4V sig false)) ∧ ∃ cs', RdAt w'' r (w.heap.size ≤ ·) (num4X sig false) (num4W sig false) cs' ∧ Own w' w'' [(r, cs', 130)]) := fun w' r cs h1 h2 => rdNum1 w' r _ sig cs h1 h2 hsb hsl
 obtain ⟨hS0, hS1⟩ := num4V_range hsb false
 obtain ⟨S, hS2⟩ : ∃ S, S = num4V sig false := ⟨_, rfl⟩
 rw [← hS2] at hM2 hS hS0 hS1
 obtain ⟨n, hn⟩ : ∃ n, n = sig.length := ⟨_, rfl⟩
 rw [← hn] at hN2 ⊢
 have hSe : (S == 1) = false := by simpa using hS
 have hSf : (S != 1) = true := by simpa using hS
 clear hp hpb hpl hT0 hT1 hl hw h60 e1 hkey hkb hkl hm hmb hml hs hsb hsl hS2 hn hS hsO
 go_enter Tryz.func30, Tryz.ntmps30
 have z1 := tt
 go_wp2_with (first
  | (clear z1; go_at_call 48; refine hN1.out.mono ?_; rintro e w1 ⟨r, cs, rfl, hr, R, H1⟩; have z2 := tt)
  | (clear z2; go_at_call 49; refine (hM1.out _ r cs H1.self1 R).mono ?_; rintro e w2 ⟨rfl, cs2, h3⟩; have H := (Own.next (L := [_]) (M := []) H1 h3 rfl).end0 (by simpa using hr); clear R H1 h3; have z3 := tt)
  | (clear z3; go_at_call 25; refine (hmn.out _).mono ?_; rintro e w3 ⟨rfl, h3⟩; replace H := H.call0 h3; clear h3; have z4 := tt)
  | (clear z4; refine st_valG rfl (rn_part (l := 4) (h := 60) (m := 56) (d := cp - 4) rfl rfl size_u8 rfl (by exact .yes rfl) (by exact .no _) (by omega) (by omega) hcp rfl rfl) ?_; have z5 := tt)
  | (clear z5; go_at_call 19; refine (hfo.out _ _ (hK.out.mv H (by simp))).mono ?_; rintro e w4 ⟨rfl, h3⟩; replace H := H.call0 h3; clear h3; have z6 := tt)
  | (refine st_val rfl (rn_part (l := 4) (h := 60) (m := 56) (d := cp - 4) rfl rfl size_u8 rfl (by exact .yes rfl) (by exact .no _) (by omega) (by omega) hcp rfl rfl) ?_)
  | (clear z6; go_at_call 48; refine (hN2.out _ H).mono ?_; rintro e w5 ⟨x, cx, rfl, hx, R, H1⟩; have hx0 := Nat.le_trans H.size hx; have HB := Hh H; clear H; have z7 := tt)
  | (clear z7; go_at_call 49; refine (hM2.out _ x cx H1.self1 R).mono ?_; rintro e w6 ⟨rfl, cx2, R6, h3⟩; have H6 := Own.next (L := [_]) (M := []) H1 h3 rfl; clear R H1 h3; have H := Hh (Own.callU HB.out H6 hx0); have R := Hh R6; clear R6 H6 HB; have z8 := tt))
 have HE := Hh (H.out.end0 (by simpa using hx0))
 go_ret
 exact ⟨rfl, HE.out⟩
set_option maxRecDepth 100000 in
theorem hver_s4 (w : World) (pv mv sv : Value) (pub msg sig : List Int) (hp : Old w pv pub) (hpb : IsBytes pub) (hm : Old w mv msg) (hmb : IsBytes msg) (hml : msg.length ≤ 90000) (hs : Old w sv sig) (hsb : IsBytes sig) (hsl : sig.length ≤ 1000000) (hpl : pub.length ≤ 1000000) (h60 : pub.length = 60) (hl : num4V pub false = 1) (hw : widthL (pub.drop 4) ≠ 0) (hS : sig.length < 4) :
 Calls Tryz.prog 30 #[pv, mv, sv] w fun e w' => e = .returned (.int .i64 3) ∧ Own w w' [] := by
 obtain ⟨pp, cp, rfl⟩ := hp.shape
 have hN1 : Hid (Calls Tryz.prog 48 #[.slice pp pub.length cp] w fun e w' => ∃ r cs, e = .returned (.pointer (some ⟨r, 0, none⟩)) ∧ w.heap.size ≤ r ∧ RdAt w' r (w.heap.size ≤ ·) pub false cs ∧ Own w w' [(r, cs, 130)]) := (rnew_any w _ pub hp hpl).mono fun _ _ ⟨r, p, c, h1, h2, h3, h4, h5⟩ => ⟨r, _, h1, h2, RdAt.start h3 h4, h5⟩
 have hM1 : Hid (∀ w' r cs, Own w' w' [(r, cs, 130)] → RdAt w' r (w.heap.size ≤ ·) pub false cs → Calls Tryz.prog 49 #[.pointer (some ⟨r, 0, none⟩), .int .i64 4] w' fun e w'' => e = .returned (.int .u64 (num4V pub false)) ∧ ∃ cs', Own w' w'' [(r, cs', 130)]) := fun w' r cs h1 h2 => (rdNum1 w' r _ pub cs h1 h2 hpb hpl).mono fun _ _ ⟨h3, cs', _, h4⟩ => ⟨h3, cs', h4⟩
 obtain ⟨hT0, hT1⟩ := num4V_range hpb false
 obtain ⟨bp, op, cp0, e1, hcp⟩ := hp.at0 (by omega)
 obtain ⟨rfl, rfl⟩ : pp = some ⟨bp, op, none⟩ ∧ cp = cp0 := by cases e1; exact ⟨rfl, rfl⟩
 rw [h60] at hN1 hp hcp e1 ⊢
 have hK := Hh (hp.drop4 h60.symm hcp)
 rw [hl] at hM1
 obtain ⟨key, hkey⟩ : ∃ k, k = pub.drop 4 := ⟨_, rfl⟩
 have hkb : IsBytes key := by rw [hkey]; exact isBytes_dropH hpb 4
 have hkl : key.length = 56 := by rw [hkey, List.length_drop, h60]
 rw [← hkey] at hK
 have hmn := Hh many_1
 rw [← hkey] at hw
 have hfo : Hid (∀ w' v, Old w' v key → Calls Tryz.prog 19 #[v] w' fun e w'' => e = .returned (.bool true) ∧ Own w' w'' []) := fun w' v h => by
  have h1 := form_any w' v key h hkb (by omega)
  rwa [show decide (0 < widthL key) = true from decide_eq_true (by omega)] at h1
 obtain ⟨ps, cs0, rfl⟩ := hs.shape
 have hsO := Hh hs
 have hN2 : Hid (∀ w', Own w w' [] → Calls Tryz.prog 48 #[.slice ps sig.length cs0] w' fun e w'' => ∃ r cs, e = .returned (.pointer (some ⟨r, 0, none⟩)) ∧ w'.heap.size ≤ r ∧ RdAt w'' r (w.heap.size ≤ ·) sig false cs ∧ Own w' w'' [(r, cs, 130)]) := fun w' h => (rnew_any w' _ sig (hsO.out.mv h (by simp)) hsl).mono fun _ _ ⟨r, p, c, h1, h2, h3, h4, h5⟩ => ⟨r, _, h1, h2, (RdAt.start h3 h4).of (fun k _ hk => Nat.le_trans h.size hk), h5⟩
 have hM2 : Hid (∀ w' r cs, Own w' w' [(r, cs, 130)] → RdAt w' r (w.heap.size ≤ ·) sig false cs → Calls Tryz.prog 49 #[.pointer (some ⟨r, 0, none⟩), .int .i64 4] w' fun e w'' => e = .returned (.int .u64 (num4V sig false)) ∧ ∃ cs', RdAt w'' r (w.heap.size ≤ ·) (num4X sig false) (num4W sig false) cs' ∧ Own w' w'' [(r, cs', 130)]) := fun w' r cs h1 h2 => rdNum1 w' r _ sig cs h1 h2 hsb hsl
 have hS2 : num4V sig false = 0 := by unfold num4V; rw [if_pos (Or.inr hS)]
 rw [hS2] at hM2
 obtain ⟨n, hn⟩ : ∃ n, n = sig.length := ⟨_, rfl⟩
 rw [← hn] at hN2 hS ⊢
 clear hp hpb hpl hT0 hT1 hl hw h60 e1 hkey hkb hkl hm hmb hml hs hsb hsl hS2 hn hsO
 go_enter Tryz.func30, Tryz.ntmps30
 have z1 := tt
 go_wp2_with (first
  | (clear z1; go_at_call 48; refine hN1.out.mono ?_; rintro e w1 ⟨r, cs, rfl, hr, R, H1⟩; have z2 := tt)
  | (clear z2; go_at_call 49; refine (hM1.out _ r cs H1.self1 R).mono ?_; rintro e w2 ⟨rfl, cs2, h3⟩; have H := (Own.next (L := [_]) (M := []) H1 h3 rfl).end0 (by simpa using hr); clear R H1 h3; have z3 := tt)
  | (clear z3; go_at_call 25; refine (hmn.out _).mono ?_; rintro e w3 ⟨rfl, h3⟩; replace H := H.call0 h3; clear h3; have z4 := tt)
  | (clear z4; refine st_valG rfl (rn_part (l := 4) (h := 60) (m := 56) (d := cp - 4) rfl rfl size_u8 rfl (by exact .yes rfl) (by exact .no _) (by omega) (by omega) hcp rfl rfl) ?_; have z5 := tt)
  | (clear z5; go_at_call 19; refine (hfo.out _ _ (hK.out.mv H (by simp))).mono ?_; rintro e w4 ⟨rfl, h3⟩; replace H := H.call0 h3; clear h3; have z6 := tt)
  | (refine st_val rfl (rn_part (l := 4) (h := 60) (m := 56) (d := cp - 4) rfl rfl size_u8 rfl (by exact .yes rfl) (by exact .no _) (by omega) (by omega) hcp rfl rfl) ?_)
  | (clear z6; go_at_call 48; refine (hN2.out _ H).mono ?_; rintro e w5 ⟨x, cx, rfl, hx, R, H1⟩; have hx0 := Nat.le_trans H.size hx; have HB := Hh H; clear H; have z7 := tt)
  | (clear z7; go_at_call 49; refine (hM2.out _ x cx H1.self1 R).mono ?_; rintro e w6 ⟨rfl, cx2, R6, h3⟩; have H6 := Own.next (L := [_]) (M := []) H1 h3 rfl; clear R H1 h3; have H := Hh (Own.callU HB.out H6 hx0); have R := Hh R6; clear R6 H6 HB; have z8 := tt))
 have HE := Hh (H.out.end0 (by simpa using hx0))
 go_ret
 exact ⟨rfl, HE.out⟩
set_option maxRecDepth 100000 in
theorem hver_1 (w : World) (pv mv sv : Value) (pub msg sig : List Int) (hp : Old w pv pub) (hpb : IsBytes pub) (hm : Old w mv msg) (hmb : IsBytes msg) (hml : msg.length ≤ 90000) (hs : Old w sv sig) (hsb : IsBytes sig) (hsl : sig.length ≤ 1000000) (hpl : pub.length ≤ 1000000) (h60 : pub.length = 60) (hl : num4V pub false = 1) (hw : widthL (pub.drop 4) ≠ 0) (hS : num4V sig false = 0) (hs4 : 4 ≤ sig.length) :
 Calls Tryz.prog 30 #[pv, mv, sv] w fun e w' => e = .returned (.int .i64 (verL (pub.drop 4) msg (sig.drop 4))) ∧ Own w w' [] := by
 obtain ⟨pp, cp, rfl⟩ := hp.shape
 have hN1 : Hid (Calls Tryz.prog 48 #[.slice pp pub.length cp] w fun e w' => ∃ r cs, e = .returned (.pointer (some ⟨r, 0, none⟩)) ∧ w.heap.size ≤ r ∧ RdAt w' r (w.heap.size ≤ ·) pub false cs ∧ Own w w' [(r, cs, 130)]) := (rnew_any w _ pub hp hpl).mono fun _ _ ⟨r, p, c, h1, h2, h3, h4, h5⟩ => ⟨r, _, h1, h2, RdAt.start h3 h4, h5⟩
 have hM1 : Hid (∀ w' r cs, Own w' w' [(r, cs, 130)] → RdAt w' r (w.heap.size ≤ ·) pub false cs → Calls Tryz.prog 49 #[.pointer (some ⟨r, 0, none⟩), .int .i64 4] w' fun e w'' => e = .returned (.int .u64 (num4V pub false)) ∧ ∃ cs', Own w' w'' [(r, cs', 130)]) := fun w' r cs h1 h2 => (rdNum1 w' r _ pub cs h1 h2 hpb hpl).mono fun _ _ ⟨h3, cs', _, h4⟩ => ⟨h3, cs', h4⟩
 obtain ⟨hT0, hT1⟩ := num4V_range hpb false
 obtain ⟨bp, op, cp0, e1, hcp⟩ := hp.at0 (by omega)
 obtain ⟨rfl, rfl⟩ : pp = some ⟨bp, op, none⟩ ∧ cp = cp0 := by cases e1; exact ⟨rfl, rfl⟩
 rw [h60] at hN1 hp hcp e1 ⊢
 have hK := Hh (hp.drop4 h60.symm hcp)
 rw [hl] at hM1
 obtain ⟨key, hkey⟩ : ∃ k, k = pub.drop 4 := ⟨_, rfl⟩
 have hkb : IsBytes key := by rw [hkey]; exact isBytes_dropH hpb 4
 have hkl : key.length = 56 := by rw [hkey, List.length_drop, h60]
 rw [← hkey] at hK
 have hmn := Hh many_1
 rw [← hkey] at hw
 have hfo : Hid (∀ w' v, Old w' v key → Calls Tryz.prog 19 #[v] w' fun e w'' => e = .returned (.bool true) ∧ Own w' w'' []) := fun w' v h => by
  have h1 := form_any w' v key h hkb (by omega)
  rwa [show decide (0 < widthL key) = true from decide_eq_true (by omega)] at h1
 obtain ⟨ps, cs0, rfl⟩ := hs.shape
 have hsO := Hh hs
 have hN2 : Hid (∀ w', Own w w' [] → Calls Tryz.prog 48 #[.slice ps sig.length cs0] w' fun e w'' => ∃ r cs, e = .returned (.pointer (some ⟨r, 0, none⟩)) ∧ w'.heap.size ≤ r ∧ RdAt w'' r (w.heap.size ≤ ·) sig false cs ∧ Own w' w'' [(r, cs, 130)]) := fun w' h => (rnew_any w' _ sig (hsO.out.mv h (by simp)) hsl).mono fun _ _ ⟨r, p, c, h1, h2, h3, h4, h5⟩ => ⟨r, _, h1, h2, (RdAt.start h3 h4).of (fun k _ hk => Nat.le_trans h.size hk), h5⟩
 have hM2 : Hid (∀ w' r cs, Own w' w' [(r, cs, 130)] → RdAt w' r (w.heap.size ≤ ·) sig false cs → Calls Tryz.prog 49 #[.pointer (some ⟨r, 0, none⟩), .int .i64 4] w' fun e w'' => e = .returned (.int .u64 (num4V sig false)) ∧ ∃ cs', RdAt w'' r (w.heap.size ≤ ·) (num4X sig false) (num4W sig false) cs' ∧ Own w' w'' [(r, cs', 130)]) := fun w' r cs h1 h2 => rdNum1 w' r _ sig cs h1 h2 hsb hsl
 have hX : num4X sig false = sig.drop 4 := by unfold num4X; rw [if_neg (by simp; omega)]
 have hW : num4W sig false = false := by unfold num4W; rw [if_neg (by simp; omega)]
 rw [hX, hW, hS] at hM2
 obtain ⟨X, hX0⟩ : ∃ X, X = sig.drop 4 := ⟨_, rfl⟩
 have hXb : IsBytes X := by rw [hX0]; exact isBytes_dropH hsb 4
 have hXl : X.length ≤ 1000000 := by rw [hX0, List.length_drop]; omega
 rw [← hX0] at hM2
 obtain ⟨n, hn⟩ : ∃ n, n = sig.length := ⟨_, rfl⟩
 rw [← hn] at hN2 hs4 ⊢
 have hmO := Hh hm
 rw [← hkey, ← hX0]
 have hve : Hid (∀ w' v u t, Old w' v key → Old w' u msg → Old w' t X → Calls Tryz.prog 18 #[v, u, t] w' fun e w'' => e = .returned (.int .i64 (verL key msg X)) ∧ Own w' w'' []) := fun w' v u t h1 h2 h3 => ver_any w' v u t key msg X h1 hkb (by omega) h2 hmb hml h3 hXb hXl
 obtain ⟨xn, hxn⟩ : ∃ x, x = X.length := ⟨_, rfl⟩
 have XL := hXl
 have hlf : Hid (∀ w' r cs, Own w' w' [(r, cs, 130)] → RdAt w' r (w.heap.size ≤ ·) X false cs → Calls Tryz.prog 60 #[.pointer (some ⟨r, 0, none⟩)] w' fun e w'' => e = .returned (.int .i64 (xn : Nat)) ∧ RdAt w'' r (w.heap.size ≤ ·) X false cs ∧ Own w' w'' [(r, cs, 130)]) := fun w' r cs h1 h2 => by
  rw [hxn]
  exact rdLeft w' r _ X cs h1 h2
 have hrw : Hid (∀ w' r cs, Own w' w' [(r, cs, 130)] → RdAt w' r (w.heap.size ≤ ·) X false cs → Calls Tryz.prog 50 #[.pointer (some ⟨r, 0, none⟩), .int .i64 (xn : Nat)] w' fun e w'' => ∃ p c cs', e = .returned (.slice p xn c) ∧ Old w'' (.slice p xn c) X ∧ Own w' w'' [(r, cs', 130)]) := fun w' r cs h1 h2 => by
  rw [hxn]
  exact (rdRaw1 w' r X.length _ X cs h1 h2 XL (Nat.le_refl _)).mono fun _ _ ⟨p, c, cs', g1, g2, _, _, g5⟩ => ⟨p, c, cs', g1, (by rwa [List.take_of_length_le (Nat.le_refl _)] at g2), g5⟩
 have hV := verL_01 (msg := msg) (sig := X) hw
 obtain ⟨V, hV0⟩ : ∃ V, V = verL key msg X := ⟨_, rfl⟩
 rw [← hV0] at hve hV ⊢
 clear hp hpb hpl hT0 hT1 hl hw h60 e1 hkey hkb hkl hm hmb hml hs hsb hsl hn hS hsO hX hW hX0 hxn hV0 hXb hXl XL
 rcases hV with rfl | rfl
 all_goals
  go_enter Tryz.func30, Tryz.ntmps30
  have z1 := tt
  go_wp2_with (first
   | (clear z1; go_at_call 48; refine hN1.out.mono ?_; rintro e w1 ⟨r, cs, rfl, hr, R, H1⟩; have z2 := tt)
   | (clear z2; go_at_call 49; refine (hM1.out _ r cs H1.self1 R).mono ?_; rintro e w2 ⟨rfl, cs2, h3⟩; have H := (Own.next (L := [_]) (M := []) H1 h3 rfl).end0 (by simpa using hr); clear R H1 h3; have z3 := tt)
   | (clear z3; go_at_call 25; refine (hmn.out _).mono ?_; rintro e w3 ⟨rfl, h3⟩; replace H := H.call0 h3; clear h3; have z4 := tt)
   | (clear z4; refine st_valG rfl (rn_part (l := 4) (h := 60) (m := 56) (d := cp - 4) rfl rfl size_u8 rfl (by exact .yes rfl) (by exact .no _) (by omega) (by omega) hcp rfl rfl) ?_; have z5 := tt)
   | (clear z5; go_at_call 19; refine (hfo.out _ _ (hK.out.mv H (by simp))).mono ?_; rintro e w4 ⟨rfl, h3⟩; replace H := H.call0 h3; clear h3; have z6 := tt)
   | (refine st_val rfl (rn_part (l := 4) (h := 60) (m := 56) (d := cp - 4) rfl rfl size_u8 rfl (by exact .yes rfl) (by exact .no _) (by omega) (by omega) hcp rfl rfl) ?_)
   | (clear z6; go_at_call 48; refine (hN2.out _ H).mono ?_; rintro e w5 ⟨x, cx, rfl, hx, R, H1⟩; have hx0 := Nat.le_trans H.size hx; have HB := Hh H; clear H; have z7 := tt)
   | (clear z7; go_at_call 49; refine (hM2.out _ x cx H1.self1 R).mono ?_; rintro e w6 ⟨rfl, cx2, R6, h3⟩; have H6 := Own.next (L := [_]) (M := []) H1 h3 rfl; clear R H1 h3; have H := Hh (Own.callU HB.out H6 hx0); have R := Hh R6; clear R6 H6 HB; have z8 := tt)
   | (clear z8; go_at_call 60; refine (hlf.out _ x _ H.out.self1 R.out).mono ?_; rintro e w7 ⟨rfl, R7, h3⟩; have H7 := Own.next (L := [_]) (M := []) H.out h3 rfl; clear H R h3; have H := Hh H7; have R := Hh R7; clear H7 R7; have z9 := tt)
   | (clear z9; go_at_call 50; refine (hrw.out _ x _ H.out.self1 R.out).mono ?_; rintro e w8 ⟨pz, cz, cx8, rfl, hZ, h3⟩; have H8 := Own.next (L := [_]) (M := []) H.out h3 rfl; have Z := Hh hZ; clear H R h3 hZ; have H := Hh H8; clear H8; have z10 := tt)
   | (clear z10; go_at_call 18; refine (hve.out _ _ _ _ (hK.out.mv H.out (by simpa using hx0)) (hmO.out.mv H.out (by simpa using hx0)) Z.out).mono ?_; rintro e w9 ⟨rfl, h3⟩; have H9 := H.out.call0 h3; clear H h3; have H := Hh H9; clear H9; have z11 := tt))
  have HE := Hh (H.out.end0 (by simpa using hx0))
  go_ret
  exact ⟨rfl, HE.out⟩
set_option maxRecDepth 100000 in
theorem hver_2a (w : World) (pv mv sv : Value) (pub msg sig : List Int) (hp : Old w pv pub) (hpb : IsBytes pub) (hm : Old w mv msg) (hmb : IsBytes msg) (hml : msg.length ≤ 90000) (hs : Old w sv sig) (hsb : IsBytes sig) (hsl : sig.length ≤ 1000000) (hpl : pub.length ≤ 1000000) (h60 : pub.length = 60) (hl : num4V pub false = 2) (hw : widthL (pub.drop 4) ≠ 0) (hS : num4V sig false = 1) (hs4 : 4 ≤ sig.length) (hc : (sig.drop 4).length < sizeOfL (widthL (pub.drop 4))) :
 Calls Tryz.prog 30 #[pv, mv, sv] w fun e w' => e = .returned (.int .i64 3) ∧ Own w w' [] := by
 obtain ⟨pp, cp, rfl⟩ := hp.shape
 have hN1 : Hid (Calls Tryz.prog 48 #[.slice pp pub.length cp] w fun e w' => ∃ r cs, e = .returned (.pointer (some ⟨r, 0, none⟩)) ∧ w.heap.size ≤ r ∧ RdAt w' r (w.heap.size ≤ ·) pub false cs ∧ Own w w' [(r, cs, 130)]) := (rnew_any w _ pub hp hpl).mono fun _ _ ⟨r, p, c, h1, h2, h3, h4, h5⟩ => ⟨r, _, h1, h2, RdAt.start h3 h4, h5⟩
 have hM1 : Hid (∀ w' r cs, Own w' w' [(r, cs, 130)] → RdAt w' r (w.heap.size ≤ ·) pub false cs → Calls Tryz.prog 49 #[.pointer (some ⟨r, 0, none⟩), .int .i64 4] w' fun e w'' => e = .returned (.int .u64 (num4V pub false)) ∧ ∃ cs', Own w' w'' [(r, cs', 130)]) := fun w' r cs h1 h2 => (rdNum1 w' r _ pub cs h1 h2 hpb hpl).mono fun _ _ ⟨h3, cs', _, h4⟩ => ⟨h3, cs', h4⟩
 obtain ⟨hT0, hT1⟩ := num4V_range hpb false
 obtain ⟨bp, op, cp0, e1, hcp⟩ := hp.at0 (by omega)
 obtain ⟨rfl, rfl⟩ : pp = some ⟨bp, op, none⟩ ∧ cp = cp0 := by cases e1; exact ⟨rfl, rfl⟩
 rw [h60] at hN1 hp hcp e1 ⊢
 have hK := Hh (hp.drop4 h60.symm hcp)
 rw [hl] at hM1
 obtain ⟨key, hkey⟩ : ∃ k, k = pub.drop 4 := ⟨_, rfl⟩
 have hkb : IsBytes key := by rw [hkey]; exact isBytes_dropH hpb 4
 have hkl : key.length = 56 := by rw [hkey, List.length_drop, h60]
 rw [← hkey] at hK
 have hmn := Hh many_2
 rw [← hkey] at hw hc
 have hfo : Hid (∀ w' v, Old w' v key → Calls Tryz.prog 19 #[v] w' fun e w'' => e = .returned (.bool true) ∧ Own w' w'' []) := fun w' v h => by
  have h1 := form_any w' v key h hkb (by omega)
  rwa [show decide (0 < widthL key) = true from decide_eq_true (by omega)] at h1
 obtain ⟨ps, cs0, rfl⟩ := hs.shape
 have hsO := Hh hs
 have hN2 : Hid (∀ w', Own w w' [] → Calls Tryz.prog 48 #[.slice ps sig.length cs0] w' fun e w'' => ∃ r cs, e = .returned (.pointer (some ⟨r, 0, none⟩)) ∧ w'.heap.size ≤ r ∧ RdAt w'' r (w.heap.size ≤ ·) sig false cs ∧ Own w' w'' [(r, cs, 130)]) := fun w' h => (rnew_any w' _ sig (hsO.out.mv h (by simp)) hsl).mono fun _ _ ⟨r, p, c, h1, h2, h3, h4, h5⟩ => ⟨r, _, h1, h2, (RdAt.start h3 h4).of (fun k _ hk => Nat.le_trans h.size hk), h5⟩
 have hM2 : Hid (∀ w' r cs, Own w' w' [(r, cs, 130)] → RdAt w' r (w.heap.size ≤ ·) sig false cs → Calls Tryz.prog 49 #[.pointer (some ⟨r, 0, none⟩), .int .i64 4] w' fun e w'' => e = .returned (.int .u64 (num4V sig false)) ∧ ∃ cs', RdAt w'' r (w.heap.size ≤ ·) (num4X sig false) (num4W sig false) cs' ∧ Own w' w'' [(r, cs', 130)]) := fun w' r cs h1 h2 => rdNum1 w' r _ sig cs h1 h2 hsb hsl
 have hX : num4X sig false = sig.drop 4 := by unfold num4X; rw [if_neg (by simp; omega)]
 have hW : num4W sig false = false := by unfold num4W; rw [if_neg (by simp; omega)]
 rw [hX, hW, hS] at hM2
 obtain ⟨X, hX0⟩ : ∃ X, X = sig.drop 4 := ⟨_, rfl⟩
 have hXb : IsBytes X := by rw [hX0]; exact isBytes_dropH hsb 4
 have hXl : X.length ≤ 1000000 := by rw [hX0, List.length_drop]; omega
 rw [← hX0] at hM2
 obtain ⟨n, hn⟩ : ∃ n, n = sig.length := ⟨_, rfl⟩
 rw [← hn] at hN2 hs4 ⊢
 have hmO := Hh hm
 rw [← hX0] at hc
 have hkk := widthV_cases key.length (num4V key false) (num4V (num4X key false) (num4W key false))
 rw [show widthV key.length (num4V key false) (num4V (num4X key false) (num4W key false)) = widthL key from rfl] at hkk
 have hk4 : widthL key = 1 ∨ widthL key = 2 ∨ widthL key = 4 ∨ widthL key = 8 := by
  rcases hkk with h | ⟨_, _, h, _⟩
  · exact absurd h hw
  · exact h
 have hwd : Hid (∀ w' v, Old w' v key → Calls Tryz.prog 47 #[v] w' fun e w'' => e = .returned (.int .i64 (widthL key : Nat)) ∧ Own w' w'' []) := fun w' v h => width_any w' v key h hkb (by omega)
 have hsi : Hid (∀ w', Calls Tryz.prog 17 #[.int .i64 (widthL key : Nat)] w' fun e w'' => e = .returned (.int .i64 (sizeOfL (widthL key) : Nat)) ∧ Own w' w'' []) := fun w' => size_k w' _ hk4
 obtain ⟨k, hk⟩ : ∃ k, k = widthL key := ⟨_, rfl⟩
 obtain ⟨z, hz⟩ : ∃ z, z = sizeOfL k := ⟨_, rfl⟩
 have hz9 : z ≤ 9000 := by rw [hz]; unfold sizeOfL; have := chN_le k; omega
 rw [← hk] at hwd hsi hk4
 rw [← hk, ← hz] at hc
 rw [← hz] at hsi
 have hnil : Hid (∀ w', Calls Tryz.prog 19 #[.slice none 0 0] w' fun e w'' => e = .returned (.bool false) ∧ Own w' w'' []) := fun w' => by
  have h := form_any w' _ [] (old_nil w') isBytes_nil' (by simp)
  rwa [wid_nil] at h
 have hr1 : Hid (∀ w' r cs, Own w' w' [(r, cs, 130)] → RdAt w' r (w.heap.size ≤ ·) X false cs → Calls Tryz.prog 50 #[.pointer (some ⟨r, 0, none⟩), .int .i64 (z : Nat)] w' fun e w'' => ∃ cs', e = .returned (.slice none 0 0) ∧ RdAt w'' r (w.heap.size ≤ ·) X true cs' ∧ Own w' w'' [(r, cs', 130)]) := fun w' r cs h1 h2 => rdRaw0 w' r z _ X false cs h1 h2 (Or.inr hc)
 have hr2 : Hid (∀ w' r cs, Own w' w' [(r, cs, 130)] → RdAt w' r (w.heap.size ≤ ·) X true cs → Calls Tryz.prog 50 #[.pointer (some ⟨r, 0, none⟩), .int .i64 (56 : Nat)] w' fun e w'' => ∃ cs', e = .returned (.slice none 0 0) ∧ RdAt w'' r (w.heap.size ≤ ·) X true cs' ∧ Own w' w'' [(r, cs', 130)]) := fun w' r cs h1 h2 => rdRaw0 w' r 56 _ X true cs h1 h2 (Or.inl rfl)
 clear hp hpb hpl hT0 hT1 hl hw h60 e1 hkey hkb hkl hm hmb hml hs hsb hsl hn hS hsO hX hW hX0 hk hz hkk hXb hXl hk4 hc
 go_enter Tryz.func30, Tryz.ntmps30
 have z1 := tt
 go_wp2_with (first
  | (clear z1; go_at_call 48; refine hN1.out.mono ?_; rintro e w1 ⟨r, cs, rfl, hr, R, H1⟩; have z2 := tt)
  | (clear z2; go_at_call 49; refine (hM1.out _ r cs H1.self1 R).mono ?_; rintro e w2 ⟨rfl, cs2, h3⟩; have H := (Own.next (L := [_]) (M := []) H1 h3 rfl).end0 (by simpa using hr); clear R H1 h3; have z3 := tt)
  | (clear z3; go_at_call 25; refine (hmn.out _).mono ?_; rintro e w3 ⟨rfl, h3⟩; replace H := H.call0 h3; clear h3; have z4 := tt)
  | (clear z4; refine st_valG rfl (rn_part (l := 4) (h := 60) (m := 56) (d := cp - 4) rfl rfl size_u8 rfl (by exact .yes rfl) (by exact .no _) (by omega) (by omega) hcp rfl rfl) ?_; have z5 := tt)
  | (clear z5; go_at_call 19; refine (hfo.out _ _ (hK.out.mv H (by simp))).mono ?_; rintro e w4 ⟨rfl, h3⟩; replace H := H.call0 h3; clear h3; have z6 := tt)
  | (refine st_val rfl (rn_part (l := 4) (h := 60) (m := 56) (d := cp - 4) rfl rfl size_u8 rfl (by exact .yes rfl) (by exact .no _) (by omega) (by omega) hcp rfl rfl) ?_)
  | (clear z6; go_at_call 48; refine (hN2.out _ H).mono ?_; rintro e w5 ⟨x, cx, rfl, hx, R, H1⟩; have hx0 := Nat.le_trans H.size hx; have HB := Hh H; clear H; have z7 := tt)
  | (clear z7; go_at_call 49; refine (hM2.out _ x cx H1.self1 R).mono ?_; rintro e w6 ⟨rfl, cx2, R6, h3⟩; have H6 := Own.next (L := [_]) (M := []) H1 h3 rfl; clear R H1 h3; have H := Hh (Own.callU HB.out H6 hx0); have R := Hh R6; clear R6 H6 HB; have z8 := tt)
  | (clear z8; go_at_call 47; refine (hwd.out _ _ (hK.out.mv H.out (by simpa using hx0))).mono ?_; rintro e w7 ⟨rfl, h3⟩; have H2 := H.out.call0 h3; have R7 := Hh (R.out.mv h3); clear R; have R := R7; clear R7 H h3; have H := Hh H2; clear H2; have z9 := tt)
  | (clear z9; go_at_call 17; refine (hsi.out _).mono ?_; rintro e w8 ⟨rfl, h3⟩; have H2 := H.out.call0 h3; have R7 := Hh (R.out.mv h3); clear R; have R := R7; clear R7 H h3; have H := Hh H2; clear H2; have z10 := tt)
  | (clear z10; go_at_call 50; refine (hr1.out _ x _ H.out.self1 R.out).mono ?_; rintro e w9 ⟨cx3, rfl, R7, h3⟩; have H7 := Own.next (L := [_]) (M := []) H.out h3 rfl; clear H R h3; have H := Hh H7; have R := Hh R7; clear H7 R7; have z11 := tt)
  | (clear z11; go_at_call 50; refine (hr2.out _ x _ H.out.self1 R.out).mono ?_; rintro e w10 ⟨cx4, rfl, R7, h3⟩; have H7 := Own.next (L := [_]) (M := []) H.out h3 rfl; clear H R h3; have H := Hh H7; have R := Hh R7; clear H7 R7; have z12 := tt)
  | (clear z12; go_at_call 19; refine (hnil.out _).mono ?_; rintro e w11 ⟨rfl, h3⟩; have H9 := H.out.call0 h3; clear H h3; have H := Hh H9; clear H9; have z13 := tt))
 have HE := Hh (H.out.end0 (by simpa using hx0))
 go_ret
 exact ⟨rfl, HE.out⟩
set_option maxRecDepth 100000 in
theorem hver_2b (w : World) (pv mv sv : Value) (pub msg sig : List Int) (hp : Old w pv pub) (hpb : IsBytes pub) (hm : Old w mv msg) (hmb : IsBytes msg) (hml : msg.length ≤ 90000) (hs : Old w sv sig) (hsb : IsBytes sig) (hsl : sig.length ≤ 1000000) (hpl : pub.length ≤ 1000000) (h60 : pub.length = 60) (hl : num4V pub false = 2) (hw : widthL (pub.drop 4) ≠ 0) (hS : num4V sig false = 1) (hs4 : 4 ≤ sig.length) (hc : sizeOfL (widthL (pub.drop 4)) ≤ (sig.drop 4).length) (hd : (sig.drop 4).length < sizeOfL (widthL (pub.drop 4)) + 56) :
 Calls Tryz.prog 30 #[pv, mv, sv] w fun e w' => e = .returned (.int .i64 3) ∧ Own w w' [] := by
 obtain ⟨pp, cp, rfl⟩ := hp.shape
 have hN1 : Hid (Calls Tryz.prog 48 #[.slice pp pub.length cp] w fun e w' => ∃ r cs, e = .returned (.pointer (some ⟨r, 0, none⟩)) ∧ w.heap.size ≤ r ∧ RdAt w' r (w.heap.size ≤ ·) pub false cs ∧ Own w w' [(r, cs, 130)]) := (rnew_any w _ pub hp hpl).mono fun _ _ ⟨r, p, c, h1, h2, h3, h4, h5⟩ => ⟨r, _, h1, h2, RdAt.start h3 h4, h5⟩
 have hM1 : Hid (∀ w' r cs, Own w' w' [(r, cs, 130)] → RdAt w' r (w.heap.size ≤ ·) pub false cs → Calls Tryz.prog 49 #[.pointer (some ⟨r, 0, none⟩), .int .i64 4] w' fun e w'' => e = .returned (.int .u64 (num4V pub false)) ∧ ∃ cs', Own w' w'' [(r, cs', 130)]) := fun w' r cs h1 h2 => (rdNum1 w' r _ pub cs h1 h2 hpb hpl).mono fun _ _ ⟨h3, cs', _, h4⟩ => ⟨h3, cs', h4⟩
 obtain ⟨hT0, hT1⟩ := num4V_range hpb false
 obtain ⟨bp, op, cp0, e1, hcp⟩ := hp.at0 (by omega)
 obtain ⟨rfl, rfl⟩ : pp = some ⟨bp, op, none⟩ ∧ cp = cp0 := by cases e1; exact ⟨rfl, rfl⟩
 rw [h60] at hN1 hp hcp e1 ⊢
 have hK := Hh (hp.drop4 h60.symm hcp)
 rw [hl] at hM1
 obtain ⟨key, hkey⟩ : ∃ k, k = pub.drop 4 := ⟨_, rfl⟩
 have hkb : IsBytes key := by rw [hkey]; exact isBytes_dropH hpb 4
 have hkl : key.length = 56 := by rw [hkey, List.length_drop, h60]
 rw [← hkey] at hK
 have hmn := Hh many_2
 rw [← hkey] at hw hc hd
 have hfo : Hid (∀ w' v, Old w' v key → Calls Tryz.prog 19 #[v] w' fun e w'' => e = .returned (.bool true) ∧ Own w' w'' []) := fun w' v h => by
  have h1 := form_any w' v key h hkb (by omega)
  rwa [show decide (0 < widthL key) = true from decide_eq_true (by omega)] at h1
 obtain ⟨ps, cs0, rfl⟩ := hs.shape
 have hsO := Hh hs
 have hN2 : Hid (∀ w', Own w w' [] → Calls Tryz.prog 48 #[.slice ps sig.length cs0] w' fun e w'' => ∃ r cs, e = .returned (.pointer (some ⟨r, 0, none⟩)) ∧ w'.heap.size ≤ r ∧ RdAt w'' r (w.heap.size ≤ ·) sig false cs ∧ Own w' w'' [(r, cs, 130)]) := fun w' h => (rnew_any w' _ sig (hsO.out.mv h (by simp)) hsl).mono fun _ _ ⟨r, p, c, h1, h2, h3, h4, h5⟩ => ⟨r, _, h1, h2, (RdAt.start h3 h4).of (fun k _ hk => Nat.le_trans h.size hk), h5⟩
 have hM2 : Hid (∀ w' r cs, Own w' w' [(r, cs, 130)] → RdAt w' r (w.heap.size ≤ ·) sig false cs → Calls Tryz.prog 49 #[.pointer (some ⟨r, 0, none⟩), .int .i64 4] w' fun e w'' => e = .returned (.int .u64 (num4V sig false)) ∧ ∃ cs', RdAt w'' r (w.heap.size ≤ ·) (num4X sig false) (num4W sig false) cs' ∧ Own w' w'' [(r, cs', 130)]) := fun w' r cs h1 h2 => rdNum1 w' r _ sig cs h1 h2 hsb hsl
 have hX : num4X sig false = sig.drop 4 := by unfold num4X; rw [if_neg (by simp; omega)]
 have hW : num4W sig false = false := by unfold num4W; rw [if_neg (by simp; omega)]
 rw [hX, hW, hS] at hM2
 obtain ⟨X, hX0⟩ : ∃ X, X = sig.drop 4 := ⟨_, rfl⟩
 have hXb : IsBytes X := by rw [hX0]; exact isBytes_dropH hsb 4
 have hXl : X.length ≤ 1000000 := by rw [hX0, List.length_drop]; omega
 rw [← hX0] at hM2
 obtain ⟨n, hn⟩ : ∃ n, n = sig.length := ⟨_, rfl⟩
 rw [← hn] at hN2 hs4 ⊢
 have hmO := Hh hm
 rw [← hX0] at hc hd
 have hkk := widthV_cases key.length (num4V key false) (num4V (num4X key false) (num4W key false))
 rw [show widthV key.length (num4V key false) (num4V (num4X key false) (num4W key false)) = widthL key from rfl] at hkk
 have hk4 : widthL key = 1 ∨ widthL key = 2 ∨ widthL key = 4 ∨ widthL key = 8 := by
  rcases hkk with h | ⟨_, _, h, _⟩
  · exact absurd h hw
  · exact h
 have hwd : Hid (∀ w' v, Old w' v key → Calls Tryz.prog 47 #[v] w' fun e w'' => e = .returned (.int .i64 (widthL key : Nat)) ∧ Own w' w'' []) := fun w' v h => width_any w' v key h hkb (by omega)
 have hsi : Hid (∀ w', Calls Tryz.prog 17 #[.int .i64 (widthL key : Nat)] w' fun e w'' => e = .returned (.int .i64 (sizeOfL (widthL key) : Nat)) ∧ Own w' w'' []) := fun w' => size_k w' _ hk4
 obtain ⟨k, hk⟩ : ∃ k, k = widthL key := ⟨_, rfl⟩
 obtain ⟨z, hz⟩ : ∃ z, z = sizeOfL k := ⟨_, rfl⟩
 have hz9 : z ≤ 9000 := by rw [hz]; unfold sizeOfL; have := chN_le k; omega
 rw [← hk] at hwd hsi hk4
 rw [← hk, ← hz] at hc hd
 rw [← hz] at hsi
 have hnil : Hid (∀ w', Calls Tryz.prog 19 #[.slice none 0 0] w' fun e w'' => e = .returned (.bool false) ∧ Own w' w'' []) := fun w' => by
  have h := form_any w' _ [] (old_nil w') isBytes_nil' (by simp)
  rwa [wid_nil] at h
 have hr1 : Hid (∀ w' r cs, Own w' w' [(r, cs, 130)] → RdAt w' r (w.heap.size ≤ ·) X false cs → Calls Tryz.prog 50 #[.pointer (some ⟨r, 0, none⟩), .int .i64 (z : Nat)] w' fun e w'' => ∃ p c cs', e = .returned (.slice p z c) ∧ Old w'' (.slice p z c) (X.take z) ∧ NewS (r + 1) (.slice p z c) ∧ RdAt w'' r (w.heap.size ≤ ·) (X.drop z) false cs' ∧ Own w' w'' [(r, cs', 130)]) := fun w' r cs h1 h2 => rdRaw1 w' r z _ X cs h1 h2 hXl hc
 have hr2 : Hid (∀ w' r cs, Own w' w' [(r, cs, 130)] → RdAt w' r (w.heap.size ≤ ·) (X.drop z) false cs → Calls Tryz.prog 50 #[.pointer (some ⟨r, 0, none⟩), .int .i64 (56 : Nat)] w' fun e w'' => ∃ cs', e = .returned (.slice none 0 0) ∧ RdAt w'' r (w.heap.size ≤ ·) (X.drop z) true cs' ∧ Own w' w'' [(r, cs', 130)]) := fun w' r cs h1 h2 => rdRaw0 w' r 56 _ (X.drop z) false cs h1 h2 (Or.inr (by rw [List.length_drop]; omega))
 clear hp hpb hpl hT0 hT1 hl hw h60 e1 hkey hkb hkl hm hmb hml hs hsb hsl hn hS hsO hX hW hX0 hk hz hkk hXb hXl hk4 hc hd
 go_enter Tryz.func30, Tryz.ntmps30
 have z1 := tt
 go_wp2_with (first
  | (clear z1; go_at_call 48; refine hN1.out.mono ?_; rintro e w1 ⟨r, cs, rfl, hr, R, H1⟩; have z2 := tt)
  | (clear z2; go_at_call 49; refine (hM1.out _ r cs H1.self1 R).mono ?_; rintro e w2 ⟨rfl, cs2, h3⟩; have H := (Own.next (L := [_]) (M := []) H1 h3 rfl).end0 (by simpa using hr); clear R H1 h3; have z3 := tt)
  | (clear z3; go_at_call 25; refine (hmn.out _).mono ?_; rintro e w3 ⟨rfl, h3⟩; replace H := H.call0 h3; clear h3; have z4 := tt)
  | (clear z4; refine st_valG rfl (rn_part (l := 4) (h := 60) (m := 56) (d := cp - 4) rfl rfl size_u8 rfl (by exact .yes rfl) (by exact .no _) (by omega) (by omega) hcp rfl rfl) ?_; have z5 := tt)
  | (clear z5; go_at_call 19; refine (hfo.out _ _ (hK.out.mv H (by simp))).mono ?_; rintro e w4 ⟨rfl, h3⟩; replace H := H.call0 h3; clear h3; have z6 := tt)
  | (refine st_val rfl (rn_part (l := 4) (h := 60) (m := 56) (d := cp - 4) rfl rfl size_u8 rfl (by exact .yes rfl) (by exact .no _) (by omega) (by omega) hcp rfl rfl) ?_)
  | (clear z6; go_at_call 48; refine (hN2.out _ H).mono ?_; rintro e w5 ⟨x, cx, rfl, hx, R, H1⟩; have hx0 := Nat.le_trans H.size hx; have HB := Hh H; clear H; have z7 := tt)
  | (clear z7; go_at_call 49; refine (hM2.out _ x cx H1.self1 R).mono ?_; rintro e w6 ⟨rfl, cx2, R6, h3⟩; have H6 := Own.next (L := [_]) (M := []) H1 h3 rfl; clear R H1 h3; have H := Hh (Own.callU HB.out H6 hx0); have R := Hh R6; clear R6 H6 HB; have z8 := tt)
  | (clear z8; go_at_call 47; refine (hwd.out _ _ (hK.out.mv H.out (by simpa using hx0))).mono ?_; rintro e w7 ⟨rfl, h3⟩; have H2 := H.out.call0 h3; have R7 := Hh (R.out.mv h3); clear R; have R := R7; clear R7 H h3; have H := Hh H2; clear H2; have z9 := tt)
  | (clear z9; go_at_call 17; refine (hsi.out _).mono ?_; rintro e w8 ⟨rfl, h3⟩; have H2 := H.out.call0 h3; have R7 := Hh (R.out.mv h3); clear R; have R := R7; clear R7 H h3; have H := Hh H2; clear H2; have z10 := tt)
  | (clear z10; go_at_call 50; refine (hr1.out _ x _ H.out.self1 R.out).mono ?_; rintro e w9 ⟨pu, cu, cx3, rfl, hU, hUn, R7, h3⟩; have H7 := Own.next (L := [_]) (M := []) H.out h3 rfl; clear hU hUn; clear H R h3; have H := Hh H7; have R := Hh R7; clear H7 R7; have z11 := tt)
  | (clear z11; go_at_call 50; refine (hr2.out _ x _ H.out.self1 R.out).mono ?_; rintro e w10 ⟨cx4, rfl, R7, h3⟩; have H7 := Own.next (L := [_]) (M := []) H.out h3 rfl; clear H R h3; have H := Hh H7; have R := Hh R7; clear H7 R7; have z12 := tt)
  | (clear z12; go_at_call 19; refine (hnil.out _).mono ?_; rintro e w11 ⟨rfl, h3⟩; have H9 := H.out.call0 h3; clear H h3; have H := Hh H9; clear H9; have z13 := tt))
 have HE := Hh (H.out.end0 (by simpa using hx0))
 go_ret
 exact ⟨rfl, HE.out⟩
set_option maxRecDepth 100000 in
theorem hver_2c (w : World) (pv mv sv : Value) (pub msg sig : List Int) (hp : Old w pv pub) (hpb : IsBytes pub) (hm : Old w mv msg) (hmb : IsBytes msg) (hml : msg.length ≤ 90000) (hs : Old w sv sig) (hsb : IsBytes sig) (hsl : sig.length ≤ 1000000) (hpl : pub.length ≤ 1000000) (h60 : pub.length = 60) (hl : num4V pub false = 2) (hw : widthL (pub.drop 4) ≠ 0) (hS : num4V sig false = 1) (hs4 : 4 ≤ sig.length) (hc : sizeOfL (widthL (pub.drop 4)) + 56 ≤ (sig.drop 4).length) (hfm : widthL (((sig.drop 4).drop (sizeOfL (widthL (pub.drop 4)))).take 56) = 0) :
 Calls Tryz.prog 30 #[pv, mv, sv] w fun e w' => e = .returned (.int .i64 3) ∧ Own w w' [] := by
 obtain ⟨pp, cp, rfl⟩ := hp.shape
 have hN1 : Hid (Calls Tryz.prog 48 #[.slice pp pub.length cp] w fun e w' => ∃ r cs, e = .returned (.pointer (some ⟨r, 0, none⟩)) ∧ w.heap.size ≤ r ∧ RdAt w' r (w.heap.size ≤ ·) pub false cs ∧ Own w w' [(r, cs, 130)]) := (rnew_any w _ pub hp hpl).mono fun _ _ ⟨r, p, c, h1, h2, h3, h4, h5⟩ => ⟨r, _, h1, h2, RdAt.start h3 h4, h5⟩
 have hM1 : Hid (∀ w' r cs, Own w' w' [(r, cs, 130)] → RdAt w' r (w.heap.size ≤ ·) pub false cs → Calls Tryz.prog 49 #[.pointer (some ⟨r, 0, none⟩), .int .i64 4] w' fun e w'' => e = .returned (.int .u64 (num4V pub false)) ∧ ∃ cs', Own w' w'' [(r, cs', 130)]) := fun w' r cs h1 h2 => (rdNum1 w' r _ pub cs h1 h2 hpb hpl).mono fun _ _ ⟨h3, cs', _, h4⟩ => ⟨h3, cs', h4⟩
 obtain ⟨hT0, hT1⟩ := num4V_range hpb false
 obtain ⟨bp, op, cp0, e1, hcp⟩ := hp.at0 (by omega)
 obtain ⟨rfl, rfl⟩ : pp = some ⟨bp, op, none⟩ ∧ cp = cp0 := by cases e1; exact ⟨rfl, rfl⟩
 rw [h60] at hN1 hp hcp e1 ⊢
 have hK := Hh (hp.drop4 h60.symm hcp)
 rw [hl] at hM1
 obtain ⟨key, hkey⟩ : ∃ k, k = pub.drop 4 := ⟨_, rfl⟩
 have hkb : IsBytes key := by rw [hkey]; exact isBytes_dropH hpb 4
 have hkl : key.length = 56 := by rw [hkey, List.length_drop, h60]
 rw [← hkey] at hK
 have hmn := Hh many_2
 rw [← hkey] at hw hc hfm
 have hfo : Hid (∀ w' v, Old w' v key → Calls Tryz.prog 19 #[v] w' fun e w'' => e = .returned (.bool true) ∧ Own w' w'' []) := fun w' v h => by
  have h1 := form_any w' v key h hkb (by omega)
  rwa [show decide (0 < widthL key) = true from decide_eq_true (by omega)] at h1
 obtain ⟨ps, cs0, rfl⟩ := hs.shape
 have hsO := Hh hs
 have hN2 : Hid (∀ w', Own w w' [] → Calls Tryz.prog 48 #[.slice ps sig.length cs0] w' fun e w'' => ∃ r cs, e = .returned (.pointer (some ⟨r, 0, none⟩)) ∧ w'.heap.size ≤ r ∧ RdAt w'' r (w.heap.size ≤ ·) sig false cs ∧ Own w' w'' [(r, cs, 130)]) := fun w' h => (rnew_any w' _ sig (hsO.out.mv h (by simp)) hsl).mono fun _ _ ⟨r, p, c, h1, h2, h3, h4, h5⟩ => ⟨r, _, h1, h2, (RdAt.start h3 h4).of (fun k _ hk => Nat.le_trans h.size hk), h5⟩
 have hM2 : Hid (∀ w' r cs, Own w' w' [(r, cs, 130)] → RdAt w' r (w.heap.size ≤ ·) sig false cs → Calls Tryz.prog 49 #[.pointer (some ⟨r, 0, none⟩), .int .i64 4] w' fun e w'' => e = .returned (.int .u64 (num4V sig false)) ∧ ∃ cs', RdAt w'' r (w.heap.size ≤ ·) (num4X sig false) (num4W sig false) cs' ∧ Own w' w'' [(r, cs', 130)]) := fun w' r cs h1 h2 => rdNum1 w' r _ sig cs h1 h2 hsb hsl
 have hX : num4X sig false = sig.drop 4 := by unfold num4X; rw [if_neg (by simp; omega)]
 have hW : num4W sig false = false := by unfold num4W; rw [if_neg (by simp; omega)]
 rw [hX, hW, hS] at hM2
 obtain ⟨X, hX0⟩ : ∃ X, X = sig.drop 4 := ⟨_, rfl⟩
 have hXb : IsBytes X := by rw [hX0]; exact isBytes_dropH hsb 4
 have hXl : X.length ≤ 1000000 := by rw [hX0, List.length_drop]; omega
 rw [← hX0] at hM2
 obtain ⟨n, hn⟩ : ∃ n, n = sig.length := ⟨_, rfl⟩
 rw [← hn] at hN2 hs4 ⊢
 have hmO := Hh hm
 rw [← hX0] at hc hfm
 have hkk := widthV_cases key.length (num4V key false) (num4V (num4X key false) (num4W key false))
 rw [show widthV key.length (num4V key false) (num4V (num4X key false) (num4W key false)) = widthL key from rfl] at hkk
 have hk4 : widthL key = 1 ∨ widthL key = 2 ∨ widthL key = 4 ∨ widthL key = 8 := by
  rcases hkk with h | ⟨_, _, h, _⟩
  · exact absurd h hw
  · exact h
 have hwd : Hid (∀ w' v, Old w' v key → Calls Tryz.prog 47 #[v] w' fun e w'' => e = .returned (.int .i64 (widthL key : Nat)) ∧ Own w' w'' []) := fun w' v h => width_any w' v key h hkb (by omega)
 have hsi : Hid (∀ w', Calls Tryz.prog 17 #[.int .i64 (widthL key : Nat)] w' fun e w'' => e = .returned (.int .i64 (sizeOfL (widthL key) : Nat)) ∧ Own w' w'' []) := fun w' => size_k w' _ hk4
 obtain ⟨k, hk⟩ : ∃ k, k = widthL key := ⟨_, rfl⟩
 obtain ⟨z, hz⟩ : ∃ z, z = sizeOfL k := ⟨_, rfl⟩
 have hz9 : z ≤ 9000 := by rw [hz]; unfold sizeOfL; have := chN_le k; omega
 rw [← hk] at hwd hsi hk4
 rw [← hk, ← hz] at hc hfm
 rw [← hz] at hsi
 have hUb : IsBytes (X.take z) := isBytes_take hXb z
 have hUl : (X.take z).length ≤ 1000000 := by rw [List.length_take]; omega
 have hYl : (X.drop z).length ≤ 1000000 := by rw [List.length_drop]; omega
 have hYb : IsBytes (X.drop z) := isBytes_dropH hXb z
 have hr1 : Hid (∀ w' r cs, Own w' w' [(r, cs, 130)] → RdAt w' r (w.heap.size ≤ ·) X false cs → Calls Tryz.prog 50 #[.pointer (some ⟨r, 0, none⟩), .int .i64 (z : Nat)] w' fun e w'' => ∃ p c cs', e = .returned (.slice p z c) ∧ Old w'' (.slice p z c) (X.take z) ∧ NewS (r + 1) (.slice p z c) ∧ RdAt w'' r (w.heap.size ≤ ·) (X.drop z) false cs' ∧ Own w' w'' [(r, cs', 130)]) := fun w' r cs h1 h2 => rdRaw1 w' r z _ X cs h1 h2 hXl (by omega)
 have hr2 : Hid (∀ w' r cs, Own w' w' [(r, cs, 130)] → RdAt w' r (w.heap.size ≤ ·) (X.drop z) false cs → Calls Tryz.prog 50 #[.pointer (some ⟨r, 0, none⟩), .int .i64 (56 : Nat)] w' fun e w'' => ∃ p c cs', e = .returned (.slice p 56 c) ∧ Old w'' (.slice p 56 c) ((X.drop z).take 56) ∧ NewS (r + 1) (.slice p 56 c) ∧ RdAt w'' r (w.heap.size ≤ ·) ((X.drop z).drop 56) false cs' ∧ Own w' w'' [(r, cs', 130)]) := fun w' r cs h1 h2 => rdRaw1 w' r 56 _ (X.drop z) cs h1 h2 hYl (by rw [List.length_drop]; omega)
 obtain ⟨U, hU0⟩ : ∃ U, U = X.take z := ⟨_, rfl⟩
 obtain ⟨Y, hY0⟩ : ∃ U, U = X.drop z := ⟨_, rfl⟩
 rw [← hU0] at hr1 hUb hUl
 rw [← hY0] at hr1 hr2 hYl hYb hfm
 have hLb : IsBytes (Y.take 56) := isBytes_take hYb 56
 have hLl : (Y.take 56).length ≤ 1000000 := by rw [List.length_take]; omega
 have hZb : IsBytes (Y.drop 56) := isBytes_dropH hYb 56
 have hZl : (Y.drop 56).length ≤ 1000000 := by rw [List.length_drop]; omega
 obtain ⟨LO, hLO⟩ : ∃ U, U = Y.take 56 := ⟨_, rfl⟩
 obtain ⟨RE, hRE⟩ : ∃ U, U = Y.drop 56 := ⟨_, rfl⟩
 rw [← hLO] at hr2 hLb hLl hfm
 rw [← hRE] at hr2 hZb hZl
 have hfl : Hid (∀ w' v, Old w' v LO → Calls Tryz.prog 19 #[v] w' fun e w'' => e = .returned (.bool false) ∧ Own w' w'' []) := fun w' v h => by
  have h1 := form_any w' v LO h hLb hLl
  rwa [hfm] at h1
 clear hp hpb hpl hT0 hT1 hl hw h60 e1 hkey hkb hkl hm hmb hml hs hsb hsl hn hS hsO hX hW hX0 hk hz hkk hXb hXl hk4 hU0 hY0 hLO hRE hUb hUl hYl hYb hLb hLl hZb hZl hc hfm
 go_enter Tryz.func30, Tryz.ntmps30
 have z1 := tt
 go_wp2_with (first
  | (clear z1; go_at_call 48; refine hN1.out.mono ?_; rintro e w1 ⟨r, cs, rfl, hr, R, H1⟩; have z2 := tt)
  | (clear z2; go_at_call 49; refine (hM1.out _ r cs H1.self1 R).mono ?_; rintro e w2 ⟨rfl, cs2, h3⟩; have H := (Own.next (L := [_]) (M := []) H1 h3 rfl).end0 (by simpa using hr); clear R H1 h3; have z3 := tt)
  | (clear z3; go_at_call 25; refine (hmn.out _).mono ?_; rintro e w3 ⟨rfl, h3⟩; replace H := H.call0 h3; clear h3; have z4 := tt)
  | (clear z4; refine st_valG rfl (rn_part (l := 4) (h := 60) (m := 56) (d := cp - 4) rfl rfl size_u8 rfl (by exact .yes rfl) (by exact .no _) (by omega) (by omega) hcp rfl rfl) ?_; have z5 := tt)
  | (clear z5; go_at_call 19; refine (hfo.out _ _ (hK.out.mv H (by simp))).mono ?_; rintro e w4 ⟨rfl, h3⟩; replace H := H.call0 h3; clear h3; have z6 := tt)
  | (refine st_val rfl (rn_part (l := 4) (h := 60) (m := 56) (d := cp - 4) rfl rfl size_u8 rfl (by exact .yes rfl) (by exact .no _) (by omega) (by omega) hcp rfl rfl) ?_)
  | (clear z6; go_at_call 48; refine (hN2.out _ H).mono ?_; rintro e w5 ⟨x, cx, rfl, hx, R, H1⟩; have hx0 := Nat.le_trans H.size hx; have HB := Hh H; clear H; have z7 := tt)
  | (clear z7; go_at_call 49; refine (hM2.out _ x cx H1.self1 R).mono ?_; rintro e w6 ⟨rfl, cx2, R6, h3⟩; have H6 := Own.next (L := [_]) (M := []) H1 h3 rfl; clear R H1 h3; have H := Hh (Own.callU HB.out H6 hx0); have R := Hh R6; clear R6 H6 HB; have z8 := tt)
  | (clear z8; go_at_call 47; refine (hwd.out _ _ (hK.out.mv H.out (by simpa using hx0))).mono ?_; rintro e w7 ⟨rfl, h3⟩; have H2 := H.out.call0 h3; have R7 := Hh (R.out.mv h3); clear R; have R := R7; clear R7 H h3; have H := Hh H2; clear H2; have z9 := tt)
  | (clear z9; go_at_call 17; refine (hsi.out _).mono ?_; rintro e w8 ⟨rfl, h3⟩; have H2 := H.out.call0 h3; have R7 := Hh (R.out.mv h3); clear R; have R := R7; clear R7 H h3; have H := Hh H2; clear H2; have z10 := tt)
  | (clear z10; go_at_call 50; refine (hr1.out _ x _ H.out.self1 R.out).mono ?_; rintro e w9 ⟨pu, cu, cx3, rfl, hU, hUn, R7, h3⟩; have H7 := Own.next (L := [_]) (M := []) H.out h3 rfl; have U9 := Hh hU; have UN := Hh hUn; clear hU hUn; clear H R h3; have H := Hh H7; have R := Hh R7; clear H7 R7; have z11 := tt)
  | (clear z11; go_at_call 50; refine (hr2.out _ x _ H.out.self1 R.out).mono ?_; rintro e w10 ⟨pl, cl, cx4, rfl, hU, hUn, R7, h3⟩; have H7 := Own.next (L := [_]) (M := []) H.out h3 rfl; have U10 := Hh (U9.out.mvR UN.out h3); have L10 := Hh hU; have LN := Hh hUn; clear hU hUn U9; clear H R h3; have H := Hh H7; have R := Hh R7; clear H7 R7; have z12 := tt)
  | (clear z12; go_at_call 19; refine (hfl.out _ _ L10.out).mono ?_; rintro e w11 ⟨rfl, h3⟩; have H9 := H.out.call0 h3; have L11 := Hh (L10.out.mv h3 (by simp)); have U11 := Hh (U10.out.mv h3 (by simp)); have R11 := Hh (R.out.mv h3); clear L10 U10 R; have R := R11; clear R11; clear H h3; have H := Hh H9; clear H9; have z13 := tt))
 have HE := Hh (H.out.end0 (by simpa using hx0))
 go_ret
 exact ⟨rfl, HE.out⟩
set_option maxRecDepth 100000 in
theorem hver_2d (w : World) (pv mv sv : Value) (pub msg sig : List Int) (hp : Old w pv pub) (hpb : IsBytes pub) (hm : Old w mv msg) (hmb : IsBytes msg) (hml : msg.length ≤ 90000) (hs : Old w sv sig) (hsb : IsBytes sig) (hsl : sig.length ≤ 1000000) (hpl : pub.length ≤ 1000000) (h60 : pub.length = 60) (hl : num4V pub false = 2) (hw : widthL (pub.drop 4) ≠ 0) (hS : num4V sig false = 1) (hs4 : 4 ≤ sig.length) (hc : sizeOfL (widthL (pub.drop 4)) + 56 ≤ (sig.drop 4).length) (hfm : widthL (((sig.drop 4).drop (sizeOfL (widthL (pub.drop 4)))).take 56) ≠ 0) (hvv : verL (pub.drop 4) (((sig.drop 4).drop (sizeOfL (widthL (pub.drop 4)))).take 56) ((sig.drop 4).take (sizeOfL (widthL (pub.drop 4)))) = 3) :
 Calls Tryz.prog 30 #[pv, mv, sv] w fun e w' => e = .returned (.int .i64 3) ∧ Own w w' [] := by
 obtain ⟨pp, cp, rfl⟩ := hp.shape
 have hN1 : Hid (Calls Tryz.prog 48 #[.slice pp pub.length cp] w fun e w' => ∃ r cs, e = .returned (.pointer (some ⟨r, 0, none⟩)) ∧ w.heap.size ≤ r ∧ RdAt w' r (w.heap.size ≤ ·) pub false cs ∧ Own w w' [(r, cs, 130)]) := (rnew_any w _ pub hp hpl).mono fun _ _ ⟨r, p, c, h1, h2, h3, h4, h5⟩ => ⟨r, _, h1, h2, RdAt.start h3 h4, h5⟩
 have hM1 : Hid (∀ w' r cs, Own w' w' [(r, cs, 130)] → RdAt w' r (w.heap.size ≤ ·) pub false cs → Calls Tryz.prog 49 #[.pointer (some ⟨r, 0, none⟩), .int .i64 4] w' fun e w'' => e = .returned (.int .u64 (num4V pub false)) ∧ ∃ cs', Own w' w'' [(r, cs', 130)]) := fun w' r cs h1 h2 => (rdNum1 w' r _ pub cs h1 h2 hpb hpl).mono fun _ _ ⟨h3, cs', _, h4⟩ => ⟨h3, cs', h4⟩
 obtain ⟨hT0, hT1⟩ := num4V_range hpb false
 obtain ⟨bp, op, cp0, e1, hcp⟩ := hp.at0 (by omega)
 obtain ⟨rfl, rfl⟩ : pp = some ⟨bp, op, none⟩ ∧ cp = cp0 := by cases e1; exact ⟨rfl, rfl⟩
 rw [h60] at hN1 hp hcp e1 ⊢
 have hK := Hh (hp.drop4 h60.symm hcp)
 rw [hl] at hM1
 obtain ⟨key, hkey⟩ : ∃ k, k = pub.drop 4 := ⟨_, rfl⟩
 have hkb : IsBytes key := by rw [hkey]; exact isBytes_dropH hpb 4
 have hkl : key.length = 56 := by rw [hkey, List.length_drop, h60]
 rw [← hkey] at hK
 have hmn := Hh many_2
 rw [← hkey] at hw hc hfm hvv
 have hfo : Hid (∀ w' v, Old w' v key → Calls Tryz.prog 19 #[v] w' fun e w'' => e = .returned (.bool true) ∧ Own w' w'' []) := fun w' v h => by
  have h1 := form_any w' v key h hkb (by omega)
  rwa [show decide (0 < widthL key) = true from decide_eq_true (by omega)] at h1
 obtain ⟨ps, cs0, rfl⟩ := hs.shape
 have hsO := Hh hs
 have hN2 : Hid (∀ w', Own w w' [] → Calls Tryz.prog 48 #[.slice ps sig.length cs0] w' fun e w'' => ∃ r cs, e = .returned (.pointer (some ⟨r, 0, none⟩)) ∧ w'.heap.size ≤ r ∧ RdAt w'' r (w.heap.size ≤ ·) sig false cs ∧ Own w' w'' [(r, cs, 130)]) := fun w' h => (rnew_any w' _ sig (hsO.out.mv h (by simp)) hsl).mono fun _ _ ⟨r, p, c, h1, h2, h3, h4, h5⟩ => ⟨r, _, h1, h2, (RdAt.start h3 h4).of (fun k _ hk => Nat.le_trans h.size hk), h5⟩
 have hM2 : Hid (∀ w' r cs, Own w' w' [(r, cs, 130)] → RdAt w' r (w.heap.size ≤ ·) sig false cs → Calls Tryz.prog 49 #[.pointer (some ⟨r, 0, none⟩), .int .i64 4] w' fun e w'' => e = .returned (.int .u64 (num4V sig false)) ∧ ∃ cs', RdAt w'' r (w.heap.size ≤ ·) (num4X sig false) (num4W sig false) cs' ∧ Own w' w'' [(r, cs', 130)]) := fun w' r cs h1 h2 => rdNum1 w' r _ sig cs h1 h2 hsb hsl
 have hX : num4X sig false = sig.drop 4 := by unfold num4X; rw [if_neg (by simp; omega)]
 have hW : num4W sig false = false := by unfold num4W; rw [if_neg (by simp; omega)]
 rw [hX, hW, hS] at hM2
 obtain ⟨X, hX0⟩ : ∃ X, X = sig.drop 4 := ⟨_, rfl⟩
 have hXb : IsBytes X := by rw [hX0]; exact isBytes_dropH hsb 4
 have hXl : X.length ≤ 1000000 := by rw [hX0, List.length_drop]; omega
 rw [← hX0] at hM2
 obtain ⟨n, hn⟩ : ∃ n, n = sig.length := ⟨_, rfl⟩
 rw [← hn] at hN2 hs4 ⊢
 have hmO := Hh hm
 rw [← hX0] at hc hfm hvv
 have hkk := widthV_cases key.length (num4V key false) (num4V (num4X key false) (num4W key false))
 rw [show widthV key.length (num4V key false) (num4V (num4X key false) (num4W key false)) = widthL key from rfl] at hkk
 have hk4 : widthL key = 1 ∨ widthL key = 2 ∨ widthL key = 4 ∨ widthL key = 8 := by
  rcases hkk with h | ⟨_, _, h, _⟩
  · exact absurd h hw
  · exact h
 have hwd : Hid (∀ w' v, Old w' v key → Calls Tryz.prog 47 #[v] w' fun e w'' => e = .returned (.int .i64 (widthL key : Nat)) ∧ Own w' w'' []) := fun w' v h => width_any w' v key h hkb (by omega)
 have hsi : Hid (∀ w', Calls Tryz.prog 17 #[.int .i64 (widthL key : Nat)] w' fun e w'' => e = .returned (.int .i64 (sizeOfL (widthL key) : Nat)) ∧ Own w' w'' []) := fun w' => size_k w' _ hk4
 obtain ⟨k, hk⟩ : ∃ k, k = widthL key := ⟨_, rfl⟩
 obtain ⟨z, hz⟩ : ∃ z, z = sizeOfL k := ⟨_, rfl⟩
 have hz9 : z ≤ 9000 := by rw [hz]; unfold sizeOfL; have := chN_le k; omega
 rw [← hk] at hwd hsi hk4
 rw [← hk, ← hz] at hc hfm hvv
 rw [← hz] at hsi
 have hUb : IsBytes (X.take z) := isBytes_take hXb z
 have hUl : (X.take z).length ≤ 1000000 := by rw [List.length_take]; omega
 have hYl : (X.drop z).length ≤ 1000000 := by rw [List.length_drop]; omega
 have hYb : IsBytes (X.drop z) := isBytes_dropH hXb z
 have hr1 : Hid (∀ w' r cs, Own w' w' [(r, cs, 130)] → RdAt w' r (w.heap.size ≤ ·) X false cs → Calls Tryz.prog 50 #[.pointer (some ⟨r, 0, none⟩), .int .i64 (z : Nat)] w' fun e w'' => ∃ p c cs', e = .returned (.slice p z c) ∧ Old w'' (.slice p z c) (X.take z) ∧ NewS (r + 1) (.slice p z c) ∧ RdAt w'' r (w.heap.size ≤ ·) (X.drop z) false cs' ∧ Own w' w'' [(r, cs', 130)]) := fun w' r cs h1 h2 => rdRaw1 w' r z _ X cs h1 h2 hXl (by omega)
 have hr2 : Hid (∀ w' r cs, Own w' w' [(r, cs, 130)] → RdAt w' r (w.heap.size ≤ ·) (X.drop z) false cs → Calls Tryz.prog 50 #[.pointer (some ⟨r, 0, none⟩), .int .i64 (56 : Nat)] w' fun e w'' => ∃ p c cs', e = .returned (.slice p 56 c) ∧ Old w'' (.slice p 56 c) ((X.drop z).take 56) ∧ NewS (r + 1) (.slice p 56 c) ∧ RdAt w'' r (w.heap.size ≤ ·) ((X.drop z).drop 56) false cs' ∧ Own w' w'' [(r, cs', 130)]) := fun w' r cs h1 h2 => rdRaw1 w' r 56 _ (X.drop z) cs h1 h2 hYl (by rw [List.length_drop]; omega)
 obtain ⟨U, hU0⟩ : ∃ U, U = X.take z := ⟨_, rfl⟩
 obtain ⟨Y, hY0⟩ : ∃ U, U = X.drop z := ⟨_, rfl⟩
 rw [← hU0] at hr1 hUb hUl hvv
 rw [← hY0] at hr1 hr2 hYl hYb hfm hvv
 have hLb : IsBytes (Y.take 56) := isBytes_take hYb 56
 have hLl : (Y.take 56).length ≤ 1000000 := by rw [List.length_take]; omega
 have hZb : IsBytes (Y.drop 56) := isBytes_dropH hYb 56
 have hZl : (Y.drop 56).length ≤ 1000000 := by rw [List.length_drop]; omega
 obtain ⟨LO, hLO⟩ : ∃ U, U = Y.take 56 := ⟨_, rfl⟩
 obtain ⟨RE, hRE⟩ : ∃ U, U = Y.drop 56 := ⟨_, rfl⟩
 rw [← hLO] at hr2 hLb hLl hfm hvv
 rw [← hRE] at hr2 hZb hZl
 have hfl : Hid (∀ w' v, Old w' v LO → Calls Tryz.prog 19 #[v] w' fun e w'' => e = .returned (.bool true) ∧ Own w' w'' []) := fun w' v h => by
  have h1 := form_any w' v LO h hLb hLl
  rwa [show decide (0 < widthL LO) = true from decide_eq_true (by omega)] at h1
 have hv1 : Hid (∀ w' v u t, Old w' v key → Old w' u LO → Old w' t U → Calls Tryz.prog 18 #[v, u, t] w' fun e w'' => e = .returned (.int .i64 3) ∧ Own w' w'' []) := fun w' v u t h1 h2 h3 => by
  have h := ver_any w' v u t key LO U h1 hkb (by omega) h2 hLb (by rw [hLO, List.length_take]; omega) h3 hUb hUl
  rwa [hvv] at h
 clear hp hpb hpl hT0 hT1 hl hw h60 e1 hkey hkb hkl hm hmb hml hs hsb hsl hn hS hsO hX hW hX0 hk hz hkk hXb hXl hk4 hU0 hY0 hLO hRE hUb hUl hYl hYb hLb hLl hZb hZl hc hfm hvv
 go_enter Tryz.func30, Tryz.ntmps30
 have z1 := tt
 go_wp2_with (first
  | (clear z1; go_at_call 48; refine hN1.out.mono ?_; rintro e w1 ⟨r, cs, rfl, hr, R, H1⟩; have z2 := tt)
  | (clear z2; go_at_call 49; refine (hM1.out _ r cs H1.self1 R).mono ?_; rintro e w2 ⟨rfl, cs2, h3⟩; have H := (Own.next (L := [_]) (M := []) H1 h3 rfl).end0 (by simpa using hr); clear R H1 h3; have z3 := tt)
  | (clear z3; go_at_call 25; refine (hmn.out _).mono ?_; rintro e w3 ⟨rfl, h3⟩; replace H := H.call0 h3; clear h3; have z4 := tt)
  | (clear z4; refine st_valG rfl (rn_part (l := 4) (h := 60) (m := 56) (d := cp - 4) rfl rfl size_u8 rfl (by exact .yes rfl) (by exact .no _) (by omega) (by omega) hcp rfl rfl) ?_; have z5 := tt)
  | (clear z5; go_at_call 19; refine (hfo.out _ _ (hK.out.mv H (by simp))).mono ?_; rintro e w4 ⟨rfl, h3⟩; replace H := H.call0 h3; clear h3; have z6 := tt)
  | (refine st_val rfl (rn_part (l := 4) (h := 60) (m := 56) (d := cp - 4) rfl rfl size_u8 rfl (by exact .yes rfl) (by exact .no _) (by omega) (by omega) hcp rfl rfl) ?_)
  | (clear z6; go_at_call 48; refine (hN2.out _ H).mono ?_; rintro e w5 ⟨x, cx, rfl, hx, R, H1⟩; have hx0 := Nat.le_trans H.size hx; have HB := Hh H; clear H; have z7 := tt)
  | (clear z7; go_at_call 49; refine (hM2.out _ x cx H1.self1 R).mono ?_; rintro e w6 ⟨rfl, cx2, R6, h3⟩; have H6 := Own.next (L := [_]) (M := []) H1 h3 rfl; clear R H1 h3; have H := Hh (Own.callU HB.out H6 hx0); have R := Hh R6; clear R6 H6 HB; have z8 := tt)
  | (clear z8; go_at_call 47; refine (hwd.out _ _ (hK.out.mv H.out (by simpa using hx0))).mono ?_; rintro e w7 ⟨rfl, h3⟩; have H2 := H.out.call0 h3; have R7 := Hh (R.out.mv h3); clear R; have R := R7; clear R7 H h3; have H := Hh H2; clear H2; have z9 := tt)
  | (clear z9; go_at_call 17; refine (hsi.out _).mono ?_; rintro e w8 ⟨rfl, h3⟩; have H2 := H.out.call0 h3; have R7 := Hh (R.out.mv h3); clear R; have R := R7; clear R7 H h3; have H := Hh H2; clear H2; have z10 := tt)
  | (clear z10; go_at_call 50; refine (hr1.out _ x _ H.out.self1 R.out).mono ?_; rintro e w9 ⟨pu, cu, cx3, rfl, hU, hUn, R7, h3⟩; have H7 := Own.next (L := [_]) (M := []) H.out h3 rfl; have U9 := Hh hU; have UN := Hh hUn; clear hU hUn; clear H R h3; have H := Hh H7; have R := Hh R7; clear H7 R7; have z11 := tt)
  | (clear z11; go_at_call 50; refine (hr2.out _ x _ H.out.self1 R.out).mono ?_; rintro e w10 ⟨pl, cl, cx4, rfl, hU, hUn, R7, h3⟩; have H7 := Own.next (L := [_]) (M := []) H.out h3 rfl; have U10 := Hh (U9.out.mvR UN.out h3); have L10 := Hh hU; have LN := Hh hUn; clear hU hUn U9; clear H R h3; have H := Hh H7; have R := Hh R7; clear H7 R7; have z12 := tt)
  | (clear z12; go_at_call 19; refine (hfl.out _ _ L10.out).mono ?_; rintro e w11 ⟨rfl, h3⟩; have H9 := H.out.call0 h3; have L11 := Hh (L10.out.mv h3 (by simp)); have U11 := Hh (U10.out.mv h3 (by simp)); have R11 := Hh (R.out.mv h3); clear L10 U10 R; have R := R11; clear R11; clear H h3; have H := Hh H9; clear H9; have z13 := tt)
  | (clear z13; go_at_call 18; refine (hv1.out _ _ _ _ (hK.out.mv H.out (by simpa using hx0)) L11.out U11.out).mono ?_; rintro e w12 ⟨rfl, h3⟩; have H9 := H.out.call0 h3; have L12 := Hh (L11.out.mv h3 (by simp)); have R12 := Hh (R.out.mv h3); clear H h3 L11 U11 R; have H := Hh H9; have R := R12; clear H9 R12; have z14 := tt))
 have HE := Hh (H.out.end0 (by simpa using hx0))
 go_ret
 exact ⟨rfl, HE.out⟩
set_option maxRecDepth 100000 in
theorem hver_2e (w : World) (pv mv sv : Value) (pub msg sig : List Int) (hp : Old w pv pub) (hpb : IsBytes pub) (hm : Old w mv msg) (hmb : IsBytes msg) (hml : msg.length ≤ 90000) (hs : Old w sv sig) (hsb : IsBytes sig) (hsl : sig.length ≤ 1000000) (hpl : pub.length ≤ 1000000) (h60 : pub.length = 60) (hl : num4V pub false = 2) (hw : widthL (pub.drop 4) ≠ 0) (hS : num4V sig false = 1) (hs4 : 4 ≤ sig.length) (hc : sizeOfL (widthL (pub.drop 4)) + 56 ≤ (sig.drop 4).length) (hfm : widthL (((sig.drop 4).drop (sizeOfL (widthL (pub.drop 4)))).take 56) ≠ 0) (hvv : verL (pub.drop 4) (((sig.drop 4).drop (sizeOfL (widthL (pub.drop 4)))).take 56) ((sig.drop 4).take (sizeOfL (widthL (pub.drop 4)))) = 0) :
 Calls Tryz.prog 30 #[pv, mv, sv] w fun e w' => e = .returned (.int .i64 (verL (((sig.drop 4).drop (sizeOfL (widthL (pub.drop 4)))).take 56) msg (((sig.drop 4).drop (sizeOfL (widthL (pub.drop 4)))).drop 56))) ∧ Own w w' [] := by
 obtain ⟨pp, cp, rfl⟩ := hp.shape
 have hN1 : Hid (Calls Tryz.prog 48 #[.slice pp pub.length cp] w fun e w' => ∃ r cs, e = .returned (.pointer (some ⟨r, 0, none⟩)) ∧ w.heap.size ≤ r ∧ RdAt w' r (w.heap.size ≤ ·) pub false cs ∧ Own w w' [(r, cs, 130)]) := (rnew_any w _ pub hp hpl).mono fun _ _ ⟨r, p, c, h1, h2, h3, h4, h5⟩ => ⟨r, _, h1, h2, RdAt.start h3 h4, h5⟩
 have hM1 : Hid (∀ w' r cs, Own w' w' [(r, cs, 130)] → RdAt w' r (w.heap.size ≤ ·) pub false cs → Calls Tryz.prog 49 #[.pointer (some ⟨r, 0, none⟩), .int .i64 4] w' fun e w'' => e = .returned (.int .u64 (num4V pub false)) ∧ ∃ cs', Own w' w'' [(r, cs', 130)]) := fun w' r cs h1 h2 => (rdNum1 w' r _ pub cs h1 h2 hpb hpl).mono fun _ _ ⟨h3, cs', _, h4⟩ => ⟨h3, cs', h4⟩
 obtain ⟨hT0, hT1⟩ := num4V_range hpb false
 obtain ⟨bp, op, cp0, e1, hcp⟩ := hp.at0 (by omega)
 obtain ⟨rfl, rfl⟩ : pp = some ⟨bp, op, none⟩ ∧ cp = cp0 := by cases e1; exact ⟨rfl, rfl⟩
 rw [h60] at hN1 hp hcp e1 ⊢
 have hK := Hh (hp.drop4 h60.symm hcp)
 rw [hl] at hM1
 obtain ⟨key, hkey⟩ : ∃ k, k = pub.drop 4 := ⟨_, rfl⟩
 have hkb : IsBytes key := by rw [hkey]; exact isBytes_dropH hpb 4
 have hkl : key.length = 56 := by rw [hkey, List.length_drop, h60]
 rw [← hkey] at hK
 have hmn := Hh many_2
 rw [← hkey] at hw hc hfm hvv
 have hfo : Hid (∀ w' v, Old w' v key → Calls Tryz.prog 19 #[v] w' fun e w'' => e = .returned (.bool true) ∧ Own w' w'' []) := fun w' v h => by
  have h1 := form_any w' v key h hkb (by omega)
  rwa [show decide (0 < widthL key) = true from decide_eq_true (by omega)] at h1
 obtain ⟨ps, cs0, rfl⟩ := hs.shape
 have hsO := Hh hs
 have hN2 : Hid (∀ w', Own w w' [] → Calls Tryz.prog 48 #[.slice ps sig.length cs0] w' fun e w'' => ∃ r cs, e = .returned (.pointer (some ⟨r, 0, none⟩)) ∧ w'.heap.size ≤ r ∧ RdAt w'' r (w.heap.size ≤ ·) sig false cs ∧ Own w' w'' [(r, cs, 130)]) := fun w' h => (rnew_any w' _ sig (hsO.out.mv h (by simp)) hsl).mono fun _ _ ⟨r, p, c, h1, h2, h3, h4, h5⟩ => ⟨r, _, h1, h2, (RdAt.start h3 h4).of (fun k _ hk => Nat.le_trans h.size hk), h5⟩
 have hM2 : Hid (∀ w' r cs, Own w' w' [(r, cs, 130)] → RdAt w' r (w.heap.size ≤ ·) sig false cs → Calls Tryz.prog 49 #[.pointer (some ⟨r, 0, none⟩), .int .i64 4] w' fun e w'' => e = .returned (.int .u64 (num4V sig false)) ∧ ∃ cs', RdAt w'' r (w.heap.size ≤ ·) (num4X sig false) (num4W sig false) cs' ∧ Own w' w'' [(r, cs', 130)]) := fun w' r cs h1 h2 => rdNum1 w' r _ sig cs h1 h2 hsb hsl
 have hX : num4X sig false = sig.drop 4 := by unfold num4X; rw [if_neg (by simp; omega)]
 have hW : num4W sig false = false := by unfold num4W; rw [if_neg (by simp; omega)]
 rw [hX, hW, hS] at hM2
 obtain ⟨X, hX0⟩ : ∃ X, X = sig.drop 4 := ⟨_, rfl⟩
 have hXb : IsBytes X := by rw [hX0]; exact isBytes_dropH hsb 4
 have hXl : X.length ≤ 1000000 := by rw [hX0, List.length_drop]; omega
 rw [← hX0] at hM2
 obtain ⟨n, hn⟩ : ∃ n, n = sig.length := ⟨_, rfl⟩
 rw [← hn] at hN2 hs4 ⊢
 have hmO := Hh hm
 rw [← hX0] at hc hfm hvv
 rw [← hkey, ← hX0]
 have hkk := widthV_cases key.length (num4V key false) (num4V (num4X key false) (num4W key false))
 rw [show widthV key.length (num4V key false) (num4V (num4X key false) (num4W key false)) = widthL key from rfl] at hkk
 have hk4 : widthL key = 1 ∨ widthL key = 2 ∨ widthL key = 4 ∨ widthL key = 8 := by
  rcases hkk with h | ⟨_, _, h, _⟩
  · exact absurd h hw
  · exact h
 have hwd : Hid (∀ w' v, Old w' v key → Calls Tryz.prog 47 #[v] w' fun e w'' => e = .returned (.int .i64 (widthL key : Nat)) ∧ Own w' w'' []) := fun w' v h => width_any w' v key h hkb (by omega)
 have hsi : Hid (∀ w', Calls Tryz.prog 17 #[.int .i64 (widthL key : Nat)] w' fun e w'' => e = .returned (.int .i64 (sizeOfL (widthL key) : Nat)) ∧ Own w' w'' []) := fun w' => size_k w' _ hk4
 obtain ⟨k, hk⟩ : ∃ k, k = widthL key := ⟨_, rfl⟩
 obtain ⟨z, hz⟩ : ∃ z, z = sizeOfL k := ⟨_, rfl⟩
 have hz9 : z ≤ 9000 := by rw [hz]; unfold sizeOfL; have := chN_le k; omega
 rw [← hk] at hwd hsi hk4
 rw [← hk, ← hz] at hc hfm hvv
 rw [← hk, ← hz]
 rw [← hz] at hsi
 have hUb : IsBytes (X.take z) := isBytes_take hXb z
 have hUl : (X.take z).length ≤ 1000000 := by rw [List.length_take]; omega
 have hYl : (X.drop z).length ≤ 1000000 := by rw [List.length_drop]; omega
 have hYb : IsBytes (X.drop z) := isBytes_dropH hXb z
 have hr1 : Hid (∀ w' r cs, Own w' w' [(r, cs, 130)] → RdAt w' r (w.heap.size ≤ ·) X false cs → Calls Tryz.prog 50 #[.pointer (some ⟨r, 0, none⟩), .int .i64 (z : Nat)] w' fun e w'' => ∃ p c cs', e = .returned (.slice p z c) ∧ Old w'' (.slice p z c) (X.take z) ∧ NewS (r + 1) (.slice p z c) ∧ RdAt w'' r (w.heap.size ≤ ·) (X.drop z) false cs' ∧ Own w' w'' [(r, cs', 130)]) := fun w' r cs h1 h2 => rdRaw1 w' r z _ X cs h1 h2 hXl (by omega)
 have hr2 : Hid (∀ w' r cs, Own w' w' [(r, cs, 130)] → RdAt w' r (w.heap.size ≤ ·) (X.drop z) false cs → Calls Tryz.prog 50 #[.pointer (some ⟨r, 0, none⟩), .int .i64 (56 : Nat)] w' fun e w'' => ∃ p c cs', e = .returned (.slice p 56 c) ∧ Old w'' (.slice p 56 c) ((X.drop z).take 56) ∧ NewS (r + 1) (.slice p 56 c) ∧ RdAt w'' r (w.heap.size ≤ ·) ((X.drop z).drop 56) false cs' ∧ Own w' w'' [(r, cs', 130)]) := fun w' r cs h1 h2 => rdRaw1 w' r 56 _ (X.drop z) cs h1 h2 hYl (by rw [List.length_drop]; omega)
 obtain ⟨U, hU0⟩ : ∃ U, U = X.take z := ⟨_, rfl⟩
 obtain ⟨Y, hY0⟩ : ∃ U, U = X.drop z := ⟨_, rfl⟩
 rw [← hU0] at hr1 hUb hUl hvv
 rw [← hY0] at hr1 hr2 hYl hYb hfm hvv ⊢
 have hLb : IsBytes (Y.take 56) := isBytes_take hYb 56
 have hLl : (Y.take 56).length ≤ 1000000 := by rw [List.length_take]; omega
 have hZb : IsBytes (Y.drop 56) := isBytes_dropH hYb 56
 have hZl : (Y.drop 56).length ≤ 1000000 := by rw [List.length_drop]; omega
 obtain ⟨LO, hLO⟩ : ∃ U, U = Y.take 56 := ⟨_, rfl⟩
 obtain ⟨RE, hRE⟩ : ∃ U, U = Y.drop 56 := ⟨_, rfl⟩
 rw [← hLO] at hr2 hLb hLl hfm hvv ⊢
 rw [← hRE] at hr2 hZb hZl ⊢
 have hfl : Hid (∀ w' v, Old w' v LO → Calls Tryz.prog 19 #[v] w' fun e w'' => e = .returned (.bool true) ∧ Own w' w'' []) := fun w' v h => by
  have h1 := form_any w' v LO h hLb hLl
  rwa [show decide (0 < widthL LO) = true from decide_eq_true (by omega)] at h1
 have hv1 : Hid (∀ w' v u t, Old w' v key → Old w' u LO → Old w' t U → Calls Tryz.prog 18 #[v, u, t] w' fun e w'' => e = .returned (.int .i64 0) ∧ Own w' w'' []) := fun w' v u t h1 h2 h3 => by
  have h := ver_any w' v u t key LO U h1 hkb (by omega) h2 hLb (by rw [hLO, List.length_take]; omega) h3 hUb hUl
  rwa [hvv] at h
 have hve : Hid (∀ w' v u t, Old w' v LO → Old w' u msg → Old w' t RE → Calls Tryz.prog 18 #[v, u, t] w' fun e w'' => e = .returned (.int .i64 (verL LO msg RE)) ∧ Own w' w'' []) := fun w' v u t h1 h2 h3 => ver_any w' v u t LO msg RE h1 hLb hLl h2 hmb hml h3 hZb hZl
 obtain ⟨xn, hxn⟩ : ∃ x, x = RE.length := ⟨_, rfl⟩
 have REL := hZl
 have hlf : Hid (∀ w' r cs, Own w' w' [(r, cs, 130)] → RdAt w' r (w.heap.size ≤ ·) RE false cs → Calls Tryz.prog 60 #[.pointer (some ⟨r, 0, none⟩)] w' fun e w'' => e = .returned (.int .i64 (xn : Nat)) ∧ RdAt w'' r (w.heap.size ≤ ·) RE false cs ∧ Own w' w'' [(r, cs, 130)]) := fun w' r cs h1 h2 => by
  rw [hxn]
  exact rdLeft w' r _ RE cs h1 h2
 have hrw : Hid (∀ w' r cs, Own w' w' [(r, cs, 130)] → RdAt w' r (w.heap.size ≤ ·) RE false cs → Calls Tryz.prog 50 #[.pointer (some ⟨r, 0, none⟩), .int .i64 (xn : Nat)] w' fun e w'' => ∃ p c cs', e = .returned (.slice p xn c) ∧ Old w'' (.slice p xn c) RE ∧ Own w' w'' [(r, cs', 130)]) := fun w' r cs h1 h2 => by
  rw [hxn]
  exact (rdRaw1 w' r RE.length _ RE cs h1 h2 REL (Nat.le_refl _)).mono fun _ _ ⟨p, c, cs', g1, g2, _, _, g5⟩ => ⟨p, c, cs', g1, (by rwa [List.take_of_length_le (Nat.le_refl _)] at g2), g5⟩
 have hV := verL_01 (msg := msg) (sig := RE) hfm
 obtain ⟨V, hV0⟩ : ∃ V, V = verL LO msg RE := ⟨_, rfl⟩
 rw [← hV0] at hve hV ⊢
 clear hp hpb hpl hT0 hT1 hl hw h60 e1 hkey hkb hkl hm hmb hml hs hsb hsl hn hS hsO hX hW hX0 hk hz hkk hXb hXl hk4 hU0 hY0 hLO hRE hUb hUl hYl hYb hLb hLl hZb hZl hc hfm hvv hxn hV0 REL
 rcases hV with rfl | rfl
 all_goals
  go_enter Tryz.func30, Tryz.ntmps30
  have z1 := tt
  go_wp2_with (first
   | (clear z1; go_at_call 48; refine hN1.out.mono ?_; rintro e w1 ⟨r, cs, rfl, hr, R, H1⟩; have z2 := tt)
   | (clear z2; go_at_call 49; refine (hM1.out _ r cs H1.self1 R).mono ?_; rintro e w2 ⟨rfl, cs2, h3⟩; have H := (Own.next (L := [_]) (M := []) H1 h3 rfl).end0 (by simpa using hr); clear R H1 h3; have z3 := tt)
   | (clear z3; go_at_call 25; refine (hmn.out _).mono ?_; rintro e w3 ⟨rfl, h3⟩; replace H := H.call0 h3; clear h3; have z4 := tt)
   | (clear z4; refine st_valG rfl (rn_part (l := 4) (h := 60) (m := 56) (d := cp - 4) rfl rfl size_u8 rfl (by exact .yes rfl) (by exact .no _) (by omega) (by omega) hcp rfl rfl) ?_; have z5 := tt)
   | (clear z5; go_at_call 19; refine (hfo.out _ _ (hK.out.mv H (by simp))).mono ?_; rintro e w4 ⟨rfl, h3⟩; replace H := H.call0 h3; clear h3; have z6 := tt)
   | (refine st_val rfl (rn_part (l := 4) (h := 60) (m := 56) (d := cp - 4) rfl rfl size_u8 rfl (by exact .yes rfl) (by exact .no _) (by omega) (by omega) hcp rfl rfl) ?_)
   | (clear z6; go_at_call 48; refine (hN2.out _ H).mono ?_; rintro e w5 ⟨x, cx, rfl, hx, R, H1⟩; have hx0 := Nat.le_trans H.size hx; have HB := Hh H; clear H; have z7 := tt)
   | (clear z7; go_at_call 49; refine (hM2.out _ x cx H1.self1 R).mono ?_; rintro e w6 ⟨rfl, cx2, R6, h3⟩; have H6 := Own.next (L := [_]) (M := []) H1 h3 rfl; clear R H1 h3; have H := Hh (Own.callU HB.out H6 hx0); have R := Hh R6; clear R6 H6 HB; have z8 := tt)
   | (clear z8; go_at_call 47; refine (hwd.out _ _ (hK.out.mv H.out (by simpa using hx0))).mono ?_; rintro e w7 ⟨rfl, h3⟩; have H2 := H.out.call0 h3; have R7 := Hh (R.out.mv h3); clear R; have R := R7; clear R7 H h3; have H := Hh H2; clear H2; have z9 := tt)
   | (clear z9; go_at_call 17; refine (hsi.out _).mono ?_; rintro e w8 ⟨rfl, h3⟩; have H2 := H.out.call0 h3; have R7 := Hh (R.out.mv h3); clear R; have R := R7; clear R7 H h3; have H := Hh H2; clear H2; have z10 := tt)
   | (clear z10; go_at_call 50; refine (hr1.out _ x _ H.out.self1 R.out).mono ?_; rintro e w9 ⟨pu, cu, cx3, rfl, hU, hUn, R7, h3⟩; have H7 := Own.next (L := [_]) (M := []) H.out h3 rfl; have U9 := Hh hU; have UN := Hh hUn; clear hU hUn; clear H R h3; have H := Hh H7; have R := Hh R7; clear H7 R7; have z11 := tt)
   | (clear z11; go_at_call 50; refine (hr2.out _ x _ H.out.self1 R.out).mono ?_; rintro e w10 ⟨pl, cl, cx4, rfl, hU, hUn, R7, h3⟩; have H7 := Own.next (L := [_]) (M := []) H.out h3 rfl; have U10 := Hh (U9.out.mvR UN.out h3); have L10 := Hh hU; have LN := Hh hUn; clear hU hUn U9; clear H R h3; have H := Hh H7; have R := Hh R7; clear H7 R7; have z12 := tt)
   | (clear z12; go_at_call 19; refine (hfl.out _ _ L10.out).mono ?_; rintro e w11 ⟨rfl, h3⟩; have H9 := H.out.call0 h3; have L11 := Hh (L10.out.mv h3 (by simp)); have U11 := Hh (U10.out.mv h3 (by simp)); have R11 := Hh (R.out.mv h3); clear L10 U10 R; have R := R11; clear R11; clear H h3; have H := Hh H9; clear H9; have z13 := tt)
   | (clear z13; go_at_call 18; refine (hv1.out _ _ _ _ (hK.out.mv H.out (by simpa using hx0)) L11.out U11.out).mono ?_; rintro e w12 ⟨rfl, h3⟩; have H9 := H.out.call0 h3; have L12 := Hh (L11.out.mv h3 (by simp)); have R12 := Hh (R.out.mv h3); clear H h3 L11 U11 R; have H := Hh H9; have R := R12; clear H9 R12; have z14 := tt)
   | (clear z14; go_at_call 60; refine (hlf.out _ x _ H.out.self1 R.out).mono ?_; rintro e w13 ⟨rfl, R7, h3⟩; have H7 := Own.next (L := [_]) (M := []) H.out h3 rfl; have L13 := Hh (L12.out.mvR LN.out h3); clear L12; clear H R h3; have H := Hh H7; have R := Hh R7; clear H7 R7; have z15 := tt)
   | (clear z15; go_at_call 50; refine (hrw.out _ x _ H.out.self1 R.out).mono ?_; rintro e w14 ⟨pz, cz, cx8, rfl, hZ, h3⟩; have H8 := Own.next (L := [_]) (M := []) H.out h3 rfl; have Z := Hh hZ; have L14 := Hh (L13.out.mvR LN.out h3); clear L13; clear H R h3 hZ; have H := Hh H8; clear H8; have z16 := tt)
   | (clear z16; go_at_call 18; refine (hve.out _ _ _ _ L14.out (hmO.out.mv H.out (by simpa using hx0)) Z.out).mono ?_; rintro e w15 ⟨rfl, h3⟩; have H9 := H.out.call0 h3; clear H h3; have H := Hh H9; clear H9; have z17 := tt))
  have HE := Hh (H.out.end0 (by simpa using hx0))
  go_ret
  exact ⟨rfl, HE.out⟩
end Go.Proofs.YtfihlmnbonnekaaGreat
