/- lms: Verify. -/
import Derived.Test.YtfihlmnbonnekaaGreatMe
namespace Go.Proofs.YtfihlmnbonnekaaGreat
open Go.RowKit
set_option maxHeartbeats 32000000
def pcA (xs : List Int) (o : Nat) : List Int := ((xs.drop o).take 32 ++ List.replicate 32 0).take 32
theorem length_pcA (xs : List Int) (o : Nat) : (pcA xs o).length = 32 := by simp [pcA]
theorem pcA_eq {xs : List Int} {o : Nat} (h : o + 32 ≤ xs.length) : pcA xs o = (xs.drop o).take 32 := by
 unfold pcA
 rw [List.take_left' (by rw [List.length_take, List.length_drop]; omega)]
theorem isBytes_pcA {xs : List Int} (h : IsBytes xs) (o : Nat) : IsBytes (pcA xs o) := isBytes_take (isBytes_app (isBytes_take (isBytes_drop h _) _) (isBytes_zeros _)) _
def climbC (id : List Int) (q : Nat) (x : List Int) (O : Nat → List Int) : Nat → List Int
 | 0 => x
 | i + 1 => if (q + 32) / 2 ^ i % 2 = 1 then innerOf id ((q + 32) / 2 ^ i / 2) (O i) (climbC id q x O i) else innerOf id ((q + 32) / 2 ^ i / 2) (climbC id q x O i) (O i)
theorem length_climbC {id : List Int} {q : Nat} {x : List Int} {O : Nat → List Int} (h : x.length = 32) : ∀ i, (climbC id q x O i).length = 32
 | 0 => h
 | i + 1 => by unfold climbC; split <;> rfl
theorem isBytes_climbC {id : List Int} {q : Nat} {x : List Int} {O : Nat → List Int} (h : IsBytes x) : ∀ i, IsBytes (climbC id q x O i)
 | 0 => h
 | i + 1 => by unfold climbC; split <;> exact isBytes_sha _
theorem bytes_cellV {w : World} {g o n c : Nat} {bs : List Int} (h : BytesAt w (.slice (some ⟨g, o, none⟩) n c) bs) : ∀ j v, (u8s bs)[j]? = some v → w.cell? ⟨g, o + j, none⟩ = some v := fun j v hj => by
 rcases h with ⟨_, _, h3⟩ | ⟨b, off, c2, h2, _, h3⟩
 · rw [h3] at hj; cases hj
 · cases h2
   exact h3 j v hj
def vId (pub : List Int) : List Int := (pub.drop 8).take 16
def vQ (sig : List Int) : Nat := (beN sig 4).toNat
def vPart (k : Nat) (sig : List Int) : List Int := (sig.drop 4).take (36 + 32 * chN k)
def vRoot (pub msg sig : List Int) (k : Nat) : List Int := climbC (vId pub) (vQ sig) (leafOf (vId pub) (vQ sig + 32) (candOf (vId pub) (vQ sig) k msg (vPart k sig))) (fun i => pcA sig (44 + 32 * chN k + 32 * i)) 5
def vOk (k : Nat) (sig : List Int) : Bool := decide (beN sig 4 < 32) && decide (beN (sig.drop (40 + 32 * chN k)) 4 = 5)
def verK (pub msg sig : List Int) (k : Nat) : Int := if sig.length = sizeOfL k then (if vOk k sig then (if candE k (vPart k sig) = 0 then (if vRoot pub msg sig k = pub.drop 24 then 0 else 3) else 3) else 3) else 3
def verL (pub msg sig : List Int) : Int := if widthL pub = 0 then 2 else verK pub msg sig (widthL pub)
theorem and_one : ∀ r : Nat, r < 64 → bits .and .i64 (r : Int) 1 = ((r % 2 : Nat) : Int) := by decide
theorem info_id16 : ((Tryz.prog.info? 22).bind (·.zero)).map (fun z => z.cells.toList) = some (u8s (List.replicate 16 0)) := by kernel_rfl
theorem ver_bad (w : World) (pv mv sv : Value) (pub : List Int) (hp : Old w pv pub) (hpb : IsBytes pub) (hpl : pub.length ≤ 1000000) (h0 : widthL pub = 0) :
 Calls Tryz.prog 18 #[pv, mv, sv] w fun e w' => e = .returned (.int .i64 2) ∧ Own w w' [] := by
 have hw := Hh (width_any w pv pub hp hpb hpl)
 rw [h0] at hw
 clear h0 hp hpb hpl
 go_enter Tryz.func18, Tryz.ntmps18
 go_wp2_with (go_at_call 47; refine hw.out.mono ?_; rintro e w1 ⟨rfl, H⟩)
 go_ret
 exact ⟨rfl, H⟩
set_option maxRecDepth 100000 in
theorem ver_len (w : World) (pv mv sv : Value) (pub sig : List Int) (hp : Old w pv pub) (hpb : IsBytes pub) (hs : Old w sv sig) (hsb : IsBytes sig) (hsl : sig.length ≤ 1000000) (k : Nat) (hk : k = 1 ∨ k = 2 ∨ k = 4 ∨ k = 8) (hwk : widthL pub = k) (hpl : pub.length = 56) (hne : sig.length ≠ sizeOfL k) :
 Calls Tryz.prog 18 #[pv, mv, sv] w fun e w' => e = .returned (.int .i64 3) ∧ Own w w' [] := by
 have hw := Hh (width_any w pv pub hp hpb (by omega))
 rw [hwk] at hw
 obtain ⟨hC0, hC1⟩ := chN_le k
 have hlo := Hh (fun w' => long_k w' k hk)
 have hsz0 := Hh (fun w' => size_k w' k hk)
 obtain ⟨bp, op, cp, e1, hpc⟩ := hp.at0 (by omega)
 subst e1
 have hid16 : Hid ((vId pub).length = 16) := by show _ = _; unfold vId; rw [List.length_take, List.length_drop]; omega
 have hidc : Hid (∀ w', Own w w' [] → ∀ j v, (u8s (vId pub))[j]? = some v → w'.cell? ⟨bp, op + 8 + j, none⟩ = some v) := fun w' h j v hj => by
  have h1 := ((hp.mv h (by simp)).part (l := 8) (m := 16) (d := cp - 8) rfl (by omega) (by omega) (by omega)).1
  exact bytes_cellV h1 j v hj
 have hne0 : ((k : Int) == 0) = false := by rw [beq_eq_false_iff_ne]; omega
 have hne1 : ¬ (k : Int) = 0 := by omega
 have hszi := Hh (size_idL hid16.out)
 have hnew : Hid (∀ w1 L, Own w w1 L → (∀ k ∈ L.map (·.1), w.heap.size ≤ k) → Calls Tryz.prog 48 #[sv] w1 fun e w' => ∃ r cs, e = .returned (.pointer (some ⟨r, 0, none⟩)) ∧ w1.heap.size ≤ r ∧ RdAt w' r (w1.heap.size ≤ ·) sig false cs ∧ Own w1 w' [(r, cs, 130)]) := fun w1 L h hn =>
  (rnew_any w1 sv sig (hs.mv h hn) hsl).mono fun _ _ ⟨r, p, c, h1, h2, h3, h4, h5⟩ => ⟨r, _, h1, h2, RdAt.start h3 h4, h5⟩
 obtain ⟨id, hid⟩ : ∃ i, i = vId pub := ⟨_, rfl⟩
 rw [← hid] at hid16 hidc hszi
 have hssh := hs.shape
 obtain ⟨ps, cs0, e2⟩ := hssh
 subst e2
 have hsb' := Hh hsb
 have hsl' := Hh hsl
 obtain ⟨hQ0, hQ1⟩ := num4V_range hsb false
 have hxl := Hh (Nat.le_trans (num4X_len sig false) hsl)
 obtain ⟨Q, hQ⟩ : ∃ q, q = num4V sig false := ⟨_, rfl⟩
 rw [← hQ] at hQ0 hQ1
 have hn1 : Hid (∀ w1 r B cs L, Own w w1 ((r, cs, 130) :: L) → RdAt w1 r B sig false cs → Calls Tryz.prog 49 #[.pointer (some ⟨r, 0, none⟩), .int .i64 4] w1 fun e w' => e = .returned (.int .u64 Q) ∧ ∃ cs', RdAt w' r B (num4X sig false) (num4W sig false) cs' ∧ Own w w' ((r, cs', 130) :: L)) := fun w1 r B cs L h1 h2 => by
  rw [hQ]
  exact rdNum_any w w1 r B sig false cs L h1 h2 hsb'.out hsl'.out
 obtain ⟨C, hC⟩ : ∃ C, C = 36 + 32 * chN k := ⟨_, rfl⟩
 obtain ⟨S, hS⟩ : ∃ S, S = sizeOfL k := ⟨_, rfl⟩
 rw [← hC] at hlo
 rw [← hS] at hsz0 hne
 obtain ⟨n, hn⟩ : ∃ n, n = sig.length := ⟨_, rfl⟩
 rw [← hn] at hnew hne ⊢
 obtain ⟨pn, hpn⟩ : ∃ n, n = pub.length := ⟨_, rfl⟩
 rw [← hpn] at hw hpc hpl ⊢
 subst hpl
 have hne2 : ((n : Int) == (S : Int)) = false := by rw [beq_eq_false_iff_ne]; omega
 have hne3 : ((n : Int) != (S : Int)) = true := by unfold bne; rw [hne2]; rfl
 have hne4 : ¬ (n : Int) = (S : Int) := by omega
 clear hp hpb hs hsb hsl hk hwk hid hQ hC hS hn hpn hsb' hsl' hne hC0 hC1
 go_enter Tryz.func18, Tryz.ntmps18
 have z1 := tt
 go_wp2_with (first
  | (clear z1; go_at_call 47; refine (hw.out).mono ?_; rintro e w1 ⟨rfl, h3⟩; have H := h3; clear h3; have z2 := tt)
  | (clear z2; refine st_val rfl (rn_arrAt rfl rfl rfl (by omega)) ?_; have z3 := tt)
  | (clear z3; refine st_val rfl (rn_cells rfl rfl rfl rfl hszi.out (hidc.out _ H)) ?_; have z4 := tt)
  | (clear z4; refine st_new rfl (rn_alloc H rfl info_id16) ?_; clear H; intro b8 w2 hb8 H; have z5 := tt)
  | (clear z5; refine st_skip rfl (rn_storeAll (vs := u8s id) H rfl rfl rfl hszi.out .head (by rw [length_ints, length_ints, hid16.out]; rfl) (oneCell_ints _ _)) ?_; clear H; intro w3 H; have z6 := tt)
  | (clear z6; go_at_call 48; refine (hnew.out _ _ H (by simpa using hb8)).mono ?_; rintro e w4 ⟨r, cs4, rfl, hr, R, h3⟩; have hr0 := Nat.le_trans H.size hr; replace H := H.callNew h3 hr; clear h3; have z7 := tt)
  | (clear z7; go_at_call 49; refine (hn1.out _ r _ _ _ H R).mono ?_; rintro e w5 ⟨rfl, cs5, R2, H2⟩; clear H R; have H := H2; have R := R2; clear H2 R2; have z8 := tt)
  | (clear z8; go_at_call 46; refine (hlo.out _).mono ?_; rintro e w6 ⟨rfl, h3⟩; have H2 := H.call0 h3; have R2 := R.mv h3; clear H h3 R; have H := H2; have R := R2; clear H2 R2; have z9 := tt)
  | (clear z9; go_at_call 50; refine (rdRawTot w _ r C _ _ _ _ _ H R hxl.out).mono ?_; rintro e w7 ⟨v, cs7, rfl, H2⟩; clear H R; have H := H2; clear H2; have z10 := tt)
  | (clear z10; go_at_call 17; refine (hsz0.out _).mono ?_; rintro e w8 ⟨rfl, h3⟩; replace H := H.call0 h3; clear h3; have z11 := tt))
 have HE := Hh (H.end0 (by simp; omega))
 clear H
 go_ret
 exact ⟨rfl, HE.out⟩
set_option maxRecDepth 100000 in
theorem ver_hd (w : World) (pv mv sv : Value) (pub sig : List Int) (hp : Old w pv pub) (hpb : IsBytes pub) (hs : Old w sv sig) (hsb : IsBytes sig) (hsl : sig.length ≤ 1000000) (k : Nat) (hk : k = 1 ∨ k = 2 ∨ k = 4 ∨ k = 8) (hwk : widthL pub = k) (hpl : pub.length = 56) (hne : sig.length = sizeOfL k) (hno : vOk k sig = false) :
 Calls Tryz.prog 18 #[pv, mv, sv] w fun e w' => e = .returned (.int .i64 3) ∧ Own w w' [] := by
 have hw := Hh (width_any w pv pub hp hpb (by omega))
 rw [hwk] at hw
 obtain ⟨hC0, hC1⟩ := chN_le k
 have hlo := Hh (fun w' => long_k w' k hk)
 have hsz0 := Hh (fun w' => size_k w' k hk)
 obtain ⟨bp, op, cp, e1, hpc⟩ := hp.at0 (by omega)
 subst e1
 have hid16 : Hid ((vId pub).length = 16) := by show _ = _; unfold vId; rw [List.length_take, List.length_drop]; omega
 have hidc : Hid (∀ w', Own w w' [] → ∀ j v, (u8s (vId pub))[j]? = some v → w'.cell? ⟨bp, op + 8 + j, none⟩ = some v) := fun w' h j v hj => by
  have h1 := ((hp.mv h (by simp)).part (l := 8) (m := 16) (d := cp - 8) rfl (by omega) (by omega) (by omega)).1
  exact bytes_cellV h1 j v hj
 have hne0 : ((k : Int) == 0) = false := by rw [beq_eq_false_iff_ne]; omega
 have hne1 : ¬ (k : Int) = 0 := by omega
 have hszi := Hh (size_idL hid16.out)
 have hnew : Hid (∀ w1 L, Own w w1 L → (∀ k ∈ L.map (·.1), w.heap.size ≤ k) → Calls Tryz.prog 48 #[sv] w1 fun e w' => ∃ r cs, e = .returned (.pointer (some ⟨r, 0, none⟩)) ∧ w1.heap.size ≤ r ∧ RdAt w' r (w1.heap.size ≤ ·) sig false cs ∧ Own w1 w' [(r, cs, 130)]) := fun w1 L h hn =>
  (rnew_any w1 sv sig (hs.mv h hn) hsl).mono fun _ _ ⟨r, p, c, h1, h2, h3, h4, h5⟩ => ⟨r, _, h1, h2, RdAt.start h3 h4, h5⟩
 obtain ⟨id, hid⟩ : ∃ i, i = vId pub := ⟨_, rfl⟩
 rw [← hid] at hid16 hidc hszi
 have hssh := hs.shape
 obtain ⟨ps, cs0, e2⟩ := hssh
 subst e2
 have hsz9 : sizeOfL k = 204 + 32 * chN k := rfl
 have hsb' := Hh hsb
 have hsl' := Hh hsl
 have hQr := beN_range hsb 4 (by omega)
 obtain ⟨hQ0, hQ1⟩ := hQr
 have hQ2 : beN sig 4 = ((vQ sig : Nat) : Int) := by unfold vQ; omega
 obtain ⟨q, hq⟩ : ∃ q, q = vQ sig := ⟨_, rfl⟩
 rw [← hq] at hQ2
 have hn1 : Hid (∀ w1 r B cs L, Own w w1 ((r, cs, 130) :: L) → RdAt w1 r B sig false cs → Calls Tryz.prog 49 #[.pointer (some ⟨r, 0, none⟩), .int .i64 4] w1 fun e w' => e = .returned (.int .u64 (q : Int)) ∧ ∃ cs', RdAt w' r B (sig.drop 4) false cs' ∧ Own w w' ((r, cs', 130) :: L)) := fun w1 r B cs L h1 h2 => by
  rw [← hQ2]
  exact (rdNumOk w w1 r B sig cs L h1 h2 hsb'.out hsl'.out (by omega)).mono fun _ _ ⟨g1, cs', g2, g3⟩ => ⟨g1, cs', g2.1, g3⟩
 have hn2 : Hid (∀ w1 r B cs L, Own w w1 ((r, cs, 130) :: L) → RdAt w1 r B (sig.drop 4) false cs → Calls Tryz.prog 50 #[.pointer (some ⟨r, 0, none⟩), .int .i64 ((36 + 32 * chN k : Nat) : Int)] w1 fun e w' => ∃ p c cs', e = .returned (.slice p (36 + 32 * chN k) c) ∧ Old w' (.slice p (36 + 32 * chN k) c) (vPart k sig) ∧ NewS (r + 1) (.slice p (36 + 32 * chN k) c) ∧ RdAt w' r B (sig.drop (40 + 32 * chN k)) false cs' ∧ Own w w' ((r, cs', 130) :: L)) := fun w1 r B cs L h1 h2 => by
  have h := rdRawOk w w1 r (36 + 32 * chN k) B (sig.drop 4) cs L h1 h2 (by rw [List.length_drop]; omega) (by rw [List.length_drop]; omega)
  rw [List.drop_drop, show 4 + (36 + 32 * chN k) = 40 + 32 * chN k by omega] at h
  exact h.mono fun _ _ ⟨p, c, cs', g1, g2, g3, _, g4, g5⟩ => ⟨p, c, cs', g1, g2, g3, g4, g5⟩
 have hb40 : IsBytes (sig.drop (40 + 32 * chN k)) := isBytes_drop hsb _
 have hl40 : (sig.drop (40 + 32 * chN k)).length = 164 := by rw [List.length_drop]; omega
 have hn3 : Hid (∀ w1 r B cs L, Own w w1 ((r, cs, 130) :: L) → RdAt w1 r B (sig.drop (40 + 32 * chN k)) false cs → Calls Tryz.prog 49 #[.pointer (some ⟨r, 0, none⟩), .int .i64 4] w1 fun e w' => e = .returned (.int .u64 (beN (sig.drop (40 + 32 * chN k)) 4)) ∧ ∃ cs', (RdAt w' r B (sig.drop (44 + 32 * chN k)) false cs' ∧ Own w1 w' [(r, cs', 130)]) ∧ Own w w' ((r, cs', 130) :: L)) := fun w1 r B cs L h1 h2 => by
  have h := rdNumOk w w1 r B _ cs L h1 h2 hb40 (by omega) (by omega)
  rw [List.drop_drop, show 40 + 32 * chN k + 4 = 44 + 32 * chN k by omega] at h
  exact h
 have hD := beN_range hb40 4 (by omega)
 obtain ⟨hD0, hD1⟩ := hD
 obtain ⟨D, hD⟩ : ∃ d, d = beN (sig.drop (40 + 32 * chN k)) 4 := ⟨_, rfl⟩
 rw [← hD] at hn3 hD0 hD1
 have hvok : vOk k sig = (decide ((q : Int) < 32) && decide (D = 5)) := by unfold vOk; rw [hQ2, hD]
 rw [hvok] at hno
 obtain ⟨C, hC⟩ : ∃ C, C = 36 + 32 * chN k := ⟨_, rfl⟩
 obtain ⟨P0, hP0⟩ : ∃ P, P = vPart k sig := ⟨_, rfl⟩
 obtain ⟨X1, hX1⟩ : ∃ X, X = sig.drop 4 := ⟨_, rfl⟩
 obtain ⟨X2, hX2⟩ : ∃ X, X = sig.drop (40 + 32 * chN k) := ⟨_, rfl⟩
 obtain ⟨X3, hX3⟩ : ∃ X, X = sig.drop (44 + 32 * chN k) := ⟨_, rfl⟩
 rw [← hX1] at hn1 hn2
 rw [← hX2] at hn2 hn3
 rw [← hX3] at hn3
 rw [← hP0] at hn2
 obtain ⟨S, hS⟩ : ∃ S, S = sizeOfL k := ⟨_, rfl⟩
 rw [← hC] at hlo hn2
 rw [← hS] at hsz0 hne
 obtain ⟨n, hn⟩ : ∃ n, n = sig.length := ⟨_, rfl⟩
 rw [← hn] at hnew hne ⊢
 obtain ⟨pn, hpn⟩ : ∃ n, n = pub.length := ⟨_, rfl⟩
 rw [← hpn] at hw hpc hpl ⊢
 subst hpl
 have hq9 : (q : Int) < 4294967296 := by rw [← hQ2]; omega
 have hne2 : ((n : Int) == (S : Int)) = true := by rw [beq_iff_eq]; omega
 have hne3 : ((n : Int) != (S : Int)) = false := by unfold bne; rw [hne2]; rfl
 clear hp hpb hs hsb hsl hk hwk hid hq hQ0 hQ1 hQ2 hC hS hn hpn hsb' hsl' hC0 hC1 hsz9 hb40 hl40 hD hvok hX1 hX2 hX3 hP0 hne
 go_enter Tryz.func18, Tryz.ntmps18
 by_cases hq32 : (q : Int) < 32
 · have hD5 : ¬ D = 5 := fun e => by rw [decide_eq_true hq32, decide_eq_true e] at hno; cases hno
   have e5 : (D == 5) = false := by rw [beq_eq_false_iff_ne]; exact hD5
   have e6 : (D != 5) = true := by unfold bne; rw [e5]; rfl
   clear hno
   have z1 := tt
   go_wp2_with (first
    | (clear z1; go_at_call 47; refine (hw.out).mono ?_; rintro e w1 ⟨rfl, h3⟩; have H := h3; clear h3; have z2 := tt)
    | (clear z2; refine st_val rfl (rn_arrAt rfl rfl rfl (by omega)) ?_; have z3 := tt)
    | (clear z3; refine st_val rfl (rn_cells rfl rfl rfl rfl hszi.out (hidc.out _ H)) ?_; have z4 := tt)
    | (clear z4; refine st_new rfl (rn_alloc H rfl info_id16) ?_; clear H; intro b8 w2 hb8 H; have z5 := tt)
    | (clear z5; refine st_skip rfl (rn_storeAll (vs := u8s id) H rfl rfl rfl hszi.out .head (by rw [length_ints, length_ints, hid16.out]; rfl) (oneCell_ints _ _)) ?_; clear H; intro w3 H; have z6 := tt)
    | (clear z6; go_at_call 48; refine (hnew.out _ _ H (by simpa using hb8)).mono ?_; rintro e w4 ⟨r, cs4, rfl, hr, R, h3⟩; have hr0 := Nat.le_trans H.size hr; replace H := H.callNew h3 hr; clear h3; have z7 := tt)
    | (clear z7; go_at_call 49; refine (hn1.out _ r _ _ _ H R).mono ?_; rintro e w5 ⟨rfl, cs5, R2, H2⟩; clear H R; have H := H2; have R := R2; clear H2 R2; have z8 := tt)
    | (clear z8; go_at_call 46; refine (hlo.out _).mono ?_; rintro e w6 ⟨rfl, h3⟩; have H2 := H.call0 h3; have R2 := R.mv h3; clear H h3 R; have H := H2; have R := R2; clear H2 R2; have z9 := tt)
    | (clear z9; go_at_call 50; refine (hn2.out _ r _ _ _ H R).mono ?_; rintro e w7 ⟨pp, cp7, cs7, rfl, P, PN, R2, H2⟩; clear H R; have H := H2; have R := R2; clear H2 R2; have z10 := tt)
    | (clear z10; go_at_call 17; refine (hsz0.out _).mono ?_; rintro e w8 ⟨rfl, h3⟩; have H2 := H.call0 h3; have R2 := R.mv h3; have P2 := Old.mv P h3 (by simp); clear H h3 R P; have H := H2; have R := R2; have P := P2; clear H2 R2 P2; have z11 := tt)
    | (clear z11; go_at_call 49; refine (hn3.out _ r _ _ _ H R).mono ?_; rintro e w9 ⟨rfl, cs9, R2, H2⟩; clear H R; have H := H2; clear H2; have z12 := tt))
   have HE := Hh (H.end0 (by simp; omega))
   clear H
   go_ret
   exact ⟨rfl, HE.out⟩
 · clear hno
   have z1 := tt
   go_wp2_with (first
    | (clear z1; go_at_call 47; refine (hw.out).mono ?_; rintro e w1 ⟨rfl, h3⟩; have H := h3; clear h3; have z2 := tt)
    | (clear z2; refine st_val rfl (rn_arrAt rfl rfl rfl (by omega)) ?_; have z3 := tt)
    | (clear z3; refine st_val rfl (rn_cells rfl rfl rfl rfl hszi.out (hidc.out _ H)) ?_; have z4 := tt)
    | (clear z4; refine st_new rfl (rn_alloc H rfl info_id16) ?_; clear H; intro b8 w2 hb8 H; have z5 := tt)
    | (clear z5; refine st_skip rfl (rn_storeAll (vs := u8s id) H rfl rfl rfl hszi.out .head (by rw [length_ints, length_ints, hid16.out]; rfl) (oneCell_ints _ _)) ?_; clear H; intro w3 H; have z6 := tt)
    | (clear z6; go_at_call 48; refine (hnew.out _ _ H (by simpa using hb8)).mono ?_; rintro e w4 ⟨r, cs4, rfl, hr, R, h3⟩; have hr0 := Nat.le_trans H.size hr; replace H := H.callNew h3 hr; clear h3; have z7 := tt)
    | (clear z7; go_at_call 49; refine (hn1.out _ r _ _ _ H R).mono ?_; rintro e w5 ⟨rfl, cs5, R2, H2⟩; clear H R; have H := H2; have R := R2; clear H2 R2; have z8 := tt)
    | (clear z8; go_at_call 46; refine (hlo.out _).mono ?_; rintro e w6 ⟨rfl, h3⟩; have H2 := H.call0 h3; have R2 := R.mv h3; clear H h3 R; have H := H2; have R := R2; clear H2 R2; have z9 := tt)
    | (clear z9; go_at_call 50; refine (hn2.out _ r _ _ _ H R).mono ?_; rintro e w7 ⟨pp, cp7, cs7, rfl, P, PN, R2, H2⟩; clear H R; have H := H2; have R := R2; clear H2 R2; have z10 := tt)
    | (clear z10; go_at_call 17; refine (hsz0.out _).mono ?_; rintro e w8 ⟨rfl, h3⟩; have H2 := H.call0 h3; have R2 := R.mv h3; have P2 := Old.mv P h3 (by simp); clear H h3 R P; have H := H2; have R := R2; have P := P2; clear H2 R2 P2; have z11 := tt))
   have HE := Hh (H.end0 (by simp; omega))
   clear H
   go_ret
   exact ⟨rfl, HE.out⟩
set_option maxRecDepth 100000 in
theorem ver_main (w : World) (pv mv sv : Value) (pub sig : List Int) (hp : Old w pv pub) (hpb : IsBytes pub) (hs : Old w sv sig) (hsb : IsBytes sig) (hsl : sig.length ≤ 1000000) (k : Nat) (hk : k = 1 ∨ k = 2 ∨ k = 4 ∨ k = 8) (hwk : widthL pub = k) (hpl : pub.length = 56) (msg : List Int) (hm : Old w mv msg) (hmb : IsBytes msg) (hml : msg.length ≤ 90000) (hne : sig.length = sizeOfL k) (hok : vOk k sig = true) :
 Calls Tryz.prog 18 #[pv, mv, sv] w fun e w' => e = .returned (.int .i64 (if candE k (vPart k sig) = 0 then (if vRoot pub msg sig k = pub.drop 24 then 0 else 3) else 3)) ∧ Own w w' [] := by
 have hw := Hh (width_any w pv pub hp hpb (by omega))
 rw [hwk] at hw
 obtain ⟨hC0, hC1⟩ := chN_le k
 have hlo := Hh (fun w' => long_k w' k hk)
 have hsz0 := Hh (fun w' => size_k w' k hk)
 obtain ⟨bp, op, cp, e1, hpc⟩ := hp.at0 (by omega)
 subst e1
 have hid16 : Hid ((vId pub).length = 16) := by show _ = _; unfold vId; rw [List.length_take, List.length_drop]; omega
 have hidc : Hid (∀ w', Own w w' [] → ∀ j v, (u8s (vId pub))[j]? = some v → w'.cell? ⟨bp, op + 8 + j, none⟩ = some v) := fun w' h j v hj => by
  have h1 := ((hp.mv h (by simp)).part (l := 8) (m := 16) (d := cp - 8) rfl (by omega) (by omega) (by omega)).1
  exact bytes_cellV h1 j v hj
 have hne0 : ((k : Int) == 0) = false := by rw [beq_eq_false_iff_ne]; omega
 have hne1 : ¬ (k : Int) = 0 := by omega
 have hszi := Hh (size_idL hid16.out)
 have hnew : Hid (∀ w1 L, Own w w1 L → (∀ k ∈ L.map (·.1), w.heap.size ≤ k) → Calls Tryz.prog 48 #[sv] w1 fun e w' => ∃ r cs, e = .returned (.pointer (some ⟨r, 0, none⟩)) ∧ w1.heap.size ≤ r ∧ RdAt w' r (w1.heap.size ≤ ·) sig false cs ∧ Own w1 w' [(r, cs, 130)]) := fun w1 L h hn =>
  (rnew_any w1 sv sig (hs.mv h hn) hsl).mono fun _ _ ⟨r, p, c, h1, h2, h3, h4, h5⟩ => ⟨r, _, h1, h2, RdAt.start h3 h4, h5⟩
 have hrtc : Hid (∀ w', Own w w' [] → ∀ j v, (u8s (pub.drop 24))[j]? = some v → w'.cell? ⟨bp, op + 24 + j, none⟩ = some v) := fun w' h j v hj => by
  have h1 := ((hp.mv h (by simp)).part (l := 24) (m := 32) (d := cp - 24) rfl (by omega) (by omega) (by omega)).1
  rw [List.take_of_length_le (by rw [List.length_drop]; omega)] at h1
  exact bytes_cellV h1 j v hj
 have hrtl : Hid ((pub.drop 24).length = 32) := by show _ = _; rw [List.length_drop]; omega
 obtain ⟨id, hid⟩ : ∃ i, i = vId pub := ⟨_, rfl⟩
 rw [← hid] at hid16 hidc hszi
 have hssh := hs.shape
 obtain ⟨ps, cs0, e2⟩ := hssh
 subst e2
 have hsz9 : sizeOfL k = 204 + 32 * chN k := rfl
 have hsb' := Hh hsb
 have hsl' := Hh hsl
 have hQr := beN_range hsb 4 (by omega)
 obtain ⟨hQ0, hQ1⟩ := hQr
 have hQ2 : beN sig 4 = ((vQ sig : Nat) : Int) := by unfold vQ; omega
 obtain ⟨q, hq⟩ : ∃ q, q = vQ sig := ⟨_, rfl⟩
 rw [← hq] at hQ2
 have hn1 : Hid (∀ w1 r B cs L, Own w w1 ((r, cs, 130) :: L) → RdAt w1 r B sig false cs → Calls Tryz.prog 49 #[.pointer (some ⟨r, 0, none⟩), .int .i64 4] w1 fun e w' => e = .returned (.int .u64 (q : Int)) ∧ ∃ cs', RdAt w' r B (sig.drop 4) false cs' ∧ Own w w' ((r, cs', 130) :: L)) := fun w1 r B cs L h1 h2 => by
  rw [← hQ2]
  exact (rdNumOk w w1 r B sig cs L h1 h2 hsb'.out hsl'.out (by omega)).mono fun _ _ ⟨g1, cs', g2, g3⟩ => ⟨g1, cs', g2.1, g3⟩
 have hn2 : Hid (∀ w1 r B cs L, Own w w1 ((r, cs, 130) :: L) → RdAt w1 r B (sig.drop 4) false cs → Calls Tryz.prog 50 #[.pointer (some ⟨r, 0, none⟩), .int .i64 ((36 + 32 * chN k : Nat) : Int)] w1 fun e w' => ∃ p c cs', e = .returned (.slice p (36 + 32 * chN k) c) ∧ Old w' (.slice p (36 + 32 * chN k) c) (vPart k sig) ∧ NewS (r + 1) (.slice p (36 + 32 * chN k) c) ∧ RdAt w' r B (sig.drop (40 + 32 * chN k)) false cs' ∧ Own w w' ((r, cs', 130) :: L)) := fun w1 r B cs L h1 h2 => by
  have h := rdRawOk w w1 r (36 + 32 * chN k) B (sig.drop 4) cs L h1 h2 (by rw [List.length_drop]; omega) (by rw [List.length_drop]; omega)
  rw [List.drop_drop, show 4 + (36 + 32 * chN k) = 40 + 32 * chN k by omega] at h
  exact h.mono fun _ _ ⟨p, c, cs', g1, g2, g3, _, g4, g5⟩ => ⟨p, c, cs', g1, g2, g3, g4, g5⟩
 have hb40 : IsBytes (sig.drop (40 + 32 * chN k)) := isBytes_drop hsb _
 have hl40 : (sig.drop (40 + 32 * chN k)).length = 164 := by rw [List.length_drop]; omega
 have hn3 : Hid (∀ w1 r B cs L, Own w w1 ((r, cs, 130) :: L) → RdAt w1 r B (sig.drop (40 + 32 * chN k)) false cs → Calls Tryz.prog 49 #[.pointer (some ⟨r, 0, none⟩), .int .i64 4] w1 fun e w' => e = .returned (.int .u64 (beN (sig.drop (40 + 32 * chN k)) 4)) ∧ ∃ cs', (RdAt w' r B (sig.drop (44 + 32 * chN k)) false cs' ∧ Own w1 w' [(r, cs', 130)]) ∧ Own w w' ((r, cs', 130) :: L)) := fun w1 r B cs L h1 h2 => by
  have h := rdNumOk w w1 r B _ cs L h1 h2 hb40 (by omega) (by omega)
  rw [List.drop_drop, show 40 + 32 * chN k + 4 = 44 + 32 * chN k by omega] at h
  exact h
 have hD := beN_range hb40 4 (by omega)
 obtain ⟨hD0, hD1⟩ := hD
 obtain ⟨D, hD⟩ : ∃ d, d = beN (sig.drop (40 + 32 * chN k)) 4 := ⟨_, rfl⟩
 rw [← hD] at hn3 hD0 hD1
 have hvok : vOk k sig = (decide ((q : Int) < 32) && decide (D = 5)) := by unfold vOk; rw [hQ2, hD]
 rw [hvok, Bool.and_eq_true, decide_eq_true_eq, decide_eq_true_eq] at hok
 obtain ⟨hq32, hD5⟩ := hok
 have hqn : q < 32 := by omega
 have hq33 : decide (32 ≤ (q : Int)) = false := decide_eq_false (by omega)
 have hcan : Hid (∀ w' v, Old w' mv msg → Old w' v (vPart k sig) → Calls Tryz.prog 51 #[.agg (u8s id).toArray, .int .i64 q, .int .i64 k, mv, v] w' fun e w'' => e = .returned (.tuple #[.agg (u8s (candOf id q k msg (vPart k sig))).toArray, .int .i64 (candE k (vPart k sig))]) ∧ Own w' w'' []) := fun w' v h1 h2 =>
  cand_any w' id hid16.out q k hqn hk mv v msg (vPart k sig) h1 hmb hml h2 (isBytes_take (isBytes_drop hsb _) _) (by unfold vPart; rw [List.length_take]; omega)
 have hK : Hid ((candOf id q k msg (vPart k sig)).length = 32) := length_candOf _ _ _ _ _
 have hKb : Hid (IsBytes (candOf id q k msg (vPart k sig))) := by
  show IsBytes _
  unfold candOf
  split
  · exact isBytes_sha _
  · exact isBytes_zeros 32
 have hroot : vRoot pub msg sig k = climbC id q (leafOf id (q + 32) (candOf id q k msg (vPart k sig))) (fun i => pcA sig (44 + 32 * chN k + 32 * i)) 5 := by unfold vRoot; rw [← hid, ← hq]
 obtain ⟨K, hK0⟩ : ∃ K, K = candOf id q k msg (vPart k sig) := ⟨_, rfl⟩
 obtain ⟨E, hE⟩ : ∃ E, E = candE k (vPart k sig) := ⟨_, rfl⟩
 have hEr : Hid (E = 0 ∨ E = 3) := by show _ ∨ _; rw [hE]; unfold candE; split; exact Or.inl rfl; exact Or.inr rfl
 rw [← hK0] at hcan hK hKb hroot
 rw [← hE] at hcan ⊢
 have hlf : Hid (∀ w' v, LitL [K] w' v → Calls Tryz.prog 52 #[.agg (u8s id).toArray, .int .i64 ((q : Int) + 32), .int .i64 33410, v] w' fun e w'' => e = .returned (.agg (u8s (leafOf id (q + 32) K)).toArray) ∧ Own w' w'' []) := fun w' v h => by
  have h2 := node_any w' id hid16.out (q + 32) 33410 (by omega) (by omega) v [K] h (by simp [hK.out]) (by simp)
  rw [leaf_node] at h2
  rw [show (q : Int) + 32 = ((q + 32 : Nat) : Int) by omega]
  exact h2
 have hin : Hid (∀ w' v (m : Nat) x y, m < 64 → x.length = 32 → y.length = 32 → LitL [x, y] w' v → Calls Tryz.prog 52 #[.agg (u8s id).toArray, .int .i64 m, .int .i64 33667, v] w' fun e w'' => e = .returned (.agg (u8s (innerOf id m x y)).toArray) ∧ Own w' w'' []) := fun w' v m x y h0 hx hy h => by
  have h2 := node_any w' id hid16.out m 33667 (by omega) (by omega) v [x, y] h (by simp [hx, hy]) (by simp)
  rw [inner_node] at h2
  exact h2
 have hrr : Hid (∀ w1 r B cs L i, i < 5 → Own w w1 ((r, cs, 130) :: L) → RdAt w1 r B (sig.drop (44 + 32 * chN k + 32 * i)) false cs → Calls Tryz.prog 50 #[.pointer (some ⟨r, 0, none⟩), .int .i64 32] w1 fun e w' => ∃ p c cs', e = .returned (.slice p 32 c) ∧ (Old w' (.slice p 32 c) (pcA sig (44 + 32 * chN k + 32 * i)) ∧ NewS w1.heap.size (.slice p 32 c)) ∧ RdAt w' r B (sig.drop (44 + 32 * chN k + 32 * (i + 1))) false cs' ∧ Own w w' ((r, cs', 130) :: L)) := fun w1 r B cs L i hi h1 h2 => by
  have h := rdRawOk w w1 r 32 B _ cs L h1 h2 (by rw [List.length_drop]; omega) (by rw [List.length_drop]; omega)
  rw [List.drop_drop, show 44 + 32 * chN k + 32 * i + 32 = 44 + 32 * chN k + 32 * (i + 1) by omega, ← pcA_eq (by omega)] at h
  exact h.mono fun _ _ ⟨p, c, cs', g1, g2, _, g3, g4, g5⟩ => ⟨p, c, cs', g1, ⟨g2, g3⟩, g4, g5⟩
 obtain ⟨Y, hY⟩ : ∃ Y, Y = fun i => pcA sig (44 + 32 * chN k + 32 * i) := ⟨_, rfl⟩
 have hYl : Hid (∀ i, (Y i).length = 32) := fun i => by rw [hY]; exact length_pcA _ _
 have hYb : Hid (∀ i, IsBytes (Y i)) := fun i => by rw [hY]; exact isBytes_pcA hsb _
 have hYe : ∀ i, pcA sig (44 + 32 * chN k + 32 * i) = Y i := fun i => by rw [hY]
 obtain ⟨Z, hZ⟩ : ∃ Z, Z = fun i => sig.drop (44 + 32 * chN k + 32 * i) := ⟨_, rfl⟩
 have hZe : ∀ i, sig.drop (44 + 32 * chN k + 32 * i) = Z i := fun i => by rw [hZ]
 have hZ0 : sig.drop (44 + 32 * chN k) = Z 0 := by rw [hZ]; rfl
 simp only [hYe, hZe] at hrr hroot
 rw [hZ0] at hn3
 obtain ⟨X, hX⟩ : ∃ X, X = climbC id q (leafOf id (q + 32) K) Y := ⟨_, rfl⟩
 have hXl : Hid (∀ i, (X i).length = 32) := fun i => by rw [hX]; exact length_climbC rfl i
 have hXb : Hid (∀ i, IsBytes (X i)) := fun i => by rw [hX]; exact isBytes_climbC (isBytes_sha _) i
 have hX0 : leafOf id (q + 32) K = X 0 := by rw [hX]; rfl
 have hX1 : Hid (∀ i, (q + 32) / 2 ^ i % 2 = 1 → innerOf id ((q + 32) / 2 ^ i / 2) (Y i) (X i) = X (i + 1)) := fun i h => by rw [hX]; show _ = ite _ _ _; rw [if_pos h]
 have hX2 : Hid (∀ i, ¬ (q + 32) / 2 ^ i % 2 = 1 → innerOf id ((q + 32) / 2 ^ i / 2) (X i) (Y i) = X (i + 1)) := fun i h => by rw [hX]; show _ = ite _ _ _; rw [if_neg h]
 rw [hX0] at hlf
 have hX5 : vRoot pub msg sig k = X 5 := by rw [hroot, hX]
 rw [hX5]
 obtain ⟨RT, hRT⟩ : ∃ R, R = pub.drop 24 := ⟨_, rfl⟩
 rw [← hRT] at hrtc hrtl ⊢
 obtain ⟨ANS, hAN⟩ : ∃ a : Int, a = if E = 0 then (if X 5 = RT then 0 else 3) else 3 := ⟨_, rfl⟩
 rw [← hAN]
 have hAN' := Hh hAN
 clear hAN
 have heq : Hid (∀ w, (Op.equalIn 10000 24 (.agg (u8s (X 5)).toArray) (.agg (u8s RT).toArray)).run Tryz.prog w = .ok (decide (X 5 = RT)) w) := fun w => eqHash w _ _ (hXl.out 5) hrtl.out
 obtain ⟨C, hC⟩ : ∃ C, C = 36 + 32 * chN k := ⟨_, rfl⟩
 obtain ⟨P0, hP0⟩ : ∃ P, P = vPart k sig := ⟨_, rfl⟩
 obtain ⟨X8, hX8⟩ : ∃ X, X = sig.drop 4 := ⟨_, rfl⟩
 obtain ⟨X9, hX9⟩ : ∃ X, X = sig.drop (40 + 32 * chN k) := ⟨_, rfl⟩
 rw [← hX8] at hn1 hn2
 rw [← hX9] at hn2 hn3
 rw [← hP0] at hn2 hcan
 obtain ⟨S, hS⟩ : ∃ S, S = sizeOfL k := ⟨_, rfl⟩
 rw [← hC] at hlo hn2
 rw [← hS] at hsz0 hne
 have hmo := Hh (fun w' L (h : Own w w' L) (hn : ∀ k ∈ L.map (·.1), w.heap.size ≤ k) => hm.mv h hn)
 have hmsh := hm.shape
 obtain ⟨pm, cm, e3⟩ := hmsh
 subst e3
 obtain ⟨ml, hmln⟩ : ∃ l, l = msg.length := ⟨_, rfl⟩
 rw [← hmln] at hmo hcan ⊢
 obtain ⟨n, hn⟩ : ∃ n, n = sig.length := ⟨_, rfl⟩
 rw [← hn] at hnew hne ⊢
 obtain ⟨pn, hpn⟩ : ∃ n, n = pub.length := ⟨_, rfl⟩
 rw [← hpn] at hw hpc hpl ⊢
 subst hpl
 subst hD5
 have hq9 : (q : Int) < 4294967296 := by rw [← hQ2]; omega
 have hne2 : ((n : Int) == (S : Int)) = true := by rw [beq_iff_eq]; omega
 have hne3 : ((n : Int) != (S : Int)) = false := by unfold bne; rw [hne2]; rfl
 clear hp hpb hs hsb hsl hk hwk hid hq hQ0 hQ1 hQ2 hC hS hn hpn hsb' hsl' hC0 hC1 hsz9 hb40 hl40 hvok hX8 hX9 hP0 hne hm hmb hml hK0 hroot hYe hZ hZe hZ0 hX hX0 hX5 hRT hmln hE hD0 hD1 hY hD
 rcases hEr.out with hE0 | hE3
 rotate_left
 · subst hE3
   go_enter Tryz.func18, Tryz.ntmps18
   have z1 := tt
   go_wp2_with (first
    | (clear z1; go_at_call 47; refine (hw.out).mono ?_; rintro e w1 ⟨rfl, h3⟩; have H := h3; clear h3; have z2 := tt)
    | (clear z2; refine st_val rfl (rn_arrAt rfl rfl rfl (by omega)) ?_; have z3 := tt)
    | (clear z3; refine st_val rfl (rn_cells rfl rfl rfl rfl hszi.out (hidc.out _ H)) ?_; have z4 := tt)
    | (clear z4; refine st_new rfl (rn_alloc H rfl info_id16) ?_; clear H; intro b8 w2 hb8 H; have z5 := tt)
    | (clear z5; refine st_skip rfl (rn_storeAll (vs := u8s id) H rfl rfl rfl hszi.out .head (by rw [length_ints, length_ints, hid16.out]; rfl) (oneCell_ints _ _)) ?_; clear H; intro w3 H; have z6 := tt)
    | (clear z6; go_at_call 48; refine (hnew.out _ _ H (by simpa using hb8)).mono ?_; rintro e w4 ⟨r, cs4, rfl, hr, R, h3⟩; have hr0 := Nat.le_trans H.size hr; replace H := H.callNew h3 hr; clear h3; have z7 := tt)
    | (clear z7; go_at_call 49; refine (hn1.out _ r _ _ _ H R).mono ?_; rintro e w5 ⟨rfl, cs5, R2, H2⟩; clear H R; have H := H2; have R := R2; clear H2 R2; have z8 := tt)
    | (clear z8; go_at_call 46; refine (hlo.out _).mono ?_; rintro e w6 ⟨rfl, h3⟩; have H2 := H.call0 h3; have R2 := R.mv h3; clear H h3 R; have H := H2; have R := R2; clear H2 R2; have z9 := tt)
    | (clear z9; go_at_call 50; refine (hn2.out _ r _ _ _ H R).mono ?_; rintro e w7 ⟨pp, cp7, cs7, rfl, P, PN, R2, H2⟩; clear H R; have H := H2; have R := R2; clear H2 R2; have z10 := tt)
    | (clear z10; go_at_call 17; refine (hsz0.out _).mono ?_; rintro e w8 ⟨rfl, h3⟩; have H2 := H.call0 h3; have R2 := R.mv h3; have P2 := Old.mv P h3 (by simp); clear H h3 R P; have H := H2; have R := R2; have P := P2; clear H2 R2 P2; have z11 := tt)
    | (clear z11; go_at_call 49; refine (hn3.out _ r _ _ _ H R).mono ?_; rintro e w9 ⟨rfl, cs9, ⟨R2, h3⟩, H2⟩; have P2 := P.mvR PN h3; clear H R P; have H := H2; have R := R2; have P := P2; clear H2 R2 P2 h3; have z12 := tt)
    | (clear z12; refine st_val rfl (rn_loadAll (cs := u8s id) H rfl rfl (.tail _ (.head _)) rfl rfl hszi.out) ?_; have z13 := tt)
    | (clear z13; go_at_call 51; refine (hcan.out _ _ (hmo.out _ _ H (by simp; omega)) P).mono ?_; rintro e w10 ⟨rfl, h3⟩; have H2 := H.call0 h3; have R2 := R.mv h3; clear H h3 R P; have H := H2; have R := R2; clear H2 R2; have z14 := tt)
    | (clear z14; refine st_new rfl (rn_alloc (Own.refl w10) rfl info_hash) ?_; intro b12 w11 hb12 M; have z15 := tt)
    | (clear z15; refine st_skip rfl (rn_storeAll (vs := u8s K) M rfl rfl rfl (size_hashL hK.out) .head (by rw [length_ints, length_ints, hK.out]; rfl) (oneCell_ints _ _)) ?_; clear M; intro w12 M; have R2 := R.mvN M (by simpa using hb12); have H2 := H.callNew M hb12; have hb12' := Nat.le_trans H.size hb12; clear H R M; have H := H2; have R := R2; clear H2 R2; have z16 := tt))
   have HE := Hh (H.end0 (by simp; omega))
   clear H
   go_ret
   exact ⟨by rw [hAN'.out, if_neg (by decide)]; rfl, HE.out⟩
 · subst hE0
   go_enter Tryz.func18, Tryz.ntmps18
   have z1 := tt
   go_wp2_with (first
    | (clear z1; go_at_call 47; refine (hw.out).mono ?_; rintro e w1 ⟨rfl, h3⟩; have H := h3; clear h3; have z2 := tt)
    | (clear z2; refine st_val rfl (rn_arrAt rfl rfl rfl (by omega)) ?_; have z3 := tt)
    | (clear z3; refine st_val rfl (rn_cells rfl rfl rfl rfl hszi.out (hidc.out _ H)) ?_; have z4 := tt)
    | (clear z4; refine st_new rfl (rn_alloc H rfl info_id16) ?_; clear H; intro b8 w2 hb8 H; have z5 := tt)
    | (clear z5; refine st_skip rfl (rn_storeAll (vs := u8s id) H rfl rfl rfl hszi.out .head (by rw [length_ints, length_ints, hid16.out]; rfl) (oneCell_ints _ _)) ?_; clear H; intro w3 H; have z6 := tt)
    | (clear z6; go_at_call 48; refine (hnew.out _ _ H (by simpa using hb8)).mono ?_; rintro e w4 ⟨r, cs4, rfl, hr, R, h3⟩; have hr0 := Nat.le_trans H.size hr; replace H := H.callNew h3 hr; clear h3; have z7 := tt)
    | (clear z7; go_at_call 49; refine (hn1.out _ r _ _ _ H R).mono ?_; rintro e w5 ⟨rfl, cs5, R2, H2⟩; clear H R; have H := H2; have R := R2; clear H2 R2; have z8 := tt)
    | (clear z8; go_at_call 46; refine (hlo.out _).mono ?_; rintro e w6 ⟨rfl, h3⟩; have H2 := H.call0 h3; have R2 := R.mv h3; clear H h3 R; have H := H2; have R := R2; clear H2 R2; have z9 := tt)
    | (clear z9; go_at_call 50; refine (hn2.out _ r _ _ _ H R).mono ?_; rintro e w7 ⟨pp, cp7, cs7, rfl, P, PN, R2, H2⟩; clear H R; have H := H2; have R := R2; clear H2 R2; have z10 := tt)
    | (clear z10; go_at_call 17; refine (hsz0.out _).mono ?_; rintro e w8 ⟨rfl, h3⟩; have H2 := H.call0 h3; have R2 := R.mv h3; have P2 := Old.mv P h3 (by simp); clear H h3 R P; have H := H2; have R := R2; have P := P2; clear H2 R2 P2; have z11 := tt)
    | (clear z11; go_at_call 49; refine (hn3.out _ r _ _ _ H R).mono ?_; rintro e w9 ⟨rfl, cs9, ⟨R2, h3⟩, H2⟩; have P2 := P.mvR PN h3; clear H R P; have H := H2; have R := R2; have P := P2; clear H2 R2 P2 h3; have z12 := tt)
    | (clear z12; refine st_val rfl (rn_loadAll (cs := u8s id) H rfl rfl (.tail _ (.head _)) rfl rfl hszi.out) ?_; have z13 := tt)
    | (clear z13; go_at_call 51; refine (hcan.out _ _ (hmo.out _ _ H (by simp; omega)) P).mono ?_; rintro e w10 ⟨rfl, h3⟩; have H2 := H.call0 h3; have R2 := R.mv h3; clear H h3 R P; have H := H2; have R := R2; clear H2 R2; have z14 := tt)
    | (clear z14; refine st_new rfl (rn_alloc (Own.refl w10) rfl info_hash) ?_; intro b12 w11 hb12 M; have z15 := tt)
    | (clear z15; refine st_skip rfl (rn_storeAll (vs := u8s K) M rfl rfl rfl (size_hashL hK.out) .head (by rw [length_ints, length_ints, hK.out]; rfl) (oneCell_ints _ _)) ?_; clear M; intro w12 M; have R2 := R.mvN M (by simpa using hb12); have H2 := H.callNew M hb12; have hb12' := Nat.le_trans H.size hb12; clear H R M; have H := H2; have R := R2; clear H2 R2; have z16 := tt))
   have H12 := Hh H
   have R12 := Hh R
   have c_id : Hid (∀ w', Own w12 w' [] → ∀ j v, (u8s id)[j]? = some v → w'.cell? ⟨b8, 0 + j, none⟩ = some v) := fun w' h j v hj => by rw [(H12.out.call0 h).cell (.tail _ (.tail _ (.head _))), Nat.zero_add]; exact hj
   have c_k : Hid (∀ w', Own w12 w' [] → BIn K w' (.slice (some ⟨b12, 0, none⟩) 32 32)) := fun w' h => (H12.out.call0 h).binAt (.head _) (fun j v hj => by rw [Nat.zero_add]; exact hj) hK.out.symm (by omega)
   clear H R
   refine region_grow 7 (by kernel_rfl) (by kernel_rfl) (by kernel_rfl) [.val (.agg (u8s id).toArray), .val (.int .i64 q), .val (.int .i64 ((q : Int) + 32)), .val (.slice (some ⟨b12, 0, none⟩) 32 32), .rel (LitL [K]), .val (.agg (u8s (X 0)).toArray), .rel (NewC w12.heap.size (u8s (List.replicate 32 0)) 24)] rfl ?_
   have z3 := tt
   try go_frame
   repeat (first
    | (clear z3; refine sp_run (v := .agg (u8s id).toArray) rfl (fun w' hw' _ => rn_cells rfl rfl rfl rfl hszi.out (c_id.out w' hw')) ?_; try go_frame; have z4 := tt)
    | (clear z4; refine sp_run (v := .slice (some ⟨b12, 0, none⟩) 32 32) rfl (fun w' hw' _ => rn_sliceAll rfl rfl size_u8 rfl (by omega)) ?_; try go_frame; have z5 := tt)
    | (clear z5; refine sp_rel (LitL.mono _) rfl (fun w' hw' hF => litL_build (e := 27) (l := [(.slice (some ⟨b12, 0, none⟩) 32 32, K)]) rfl rfl rfl (fun x hx => by simp only [List.mem_cons, List.not_mem_nil, or_false] at hx; subst hx; exact ⟨c_k.out w' hw', hKb.out⟩) (fun w' => by kernel_rfl)) ?_; intro v63; try go_frame; have z6 := tt)
    | (clear z6; refine sp_callN (v := .agg (u8s (X 0)).toArray) (args := #[.agg (u8s id).toArray, .int .i64 ((q : Int) + 32), .int .i64 33410, v63]) rfl rfl (by simp [Act.eval]) Tryz.func52 (by kernel_rfl) (by kernel_rfl) (fun w' _ hF => hlf.out w' _ (hF.2 _ rfl (mE (by kernel_rfl)))) ?_; try go_frame; have z7 := tt)
    | (clear z7; refine sp_rel NewC.mono rfl (fun w' hw' _ => newC_alloc rfl info_hash hw'.size) ?_; intro v14; try go_frame; have z8 := tt)
    | (refine sp_val (fun w' hw' hF => ?_) ⟨_, rfl, nB rfl⟩ ?_
       · go_big_quiet_step (fail)
         exact rfl
       try go_frame))
   refine sp_nil ?_
   intro w13 hw' hF
   obtain ⟨b14, e14, hb14, hgc⟩ := hF.2 _ rfl trivial
   subst e14
   have H := (H12.out.call0 hw').adopt hgc (fun hm2 => by
    simp only [List.map_cons, List.map_nil, List.mem_cons, List.not_mem_nil, or_false] at hm2
    have g1 := H12.out.lt (.head _)
    have g2 := H12.out.lt (.tail _ (.head _))
    have g3 := H12.out.lt (.tail _ (.tail _ (.head _)))
    omega)
   have R := (R12.out.of (B' := (· ≠ b14)) (fun j hj _ => by show j ≠ b14; omega)).mv hw'
   have hgw := Hh (Nat.le_trans H12.out.size hb14)
   clear hw' hF hgc c_id c_k hlf H12 R12 hq9
   simp only [List.drop_succ_cons, List.drop_zero]
   go_wp2_with (refine st_skip rfl (rn_storeAll (vs := u8s (X 0)) (H.sub1 (.head _)) rfl rfl rfl (size_hashL (hXl.out 0)) .head (by rw [length_ints, length_ints, hXl.out]; rfl) (oneCell_ints _ _)) ?_; intro w14 M; have H2 := Own.next (L := [_]) H M rfl; have R2 := R.mvG M (fun _ h => h); clear H R M; have H := H2; have R := R2; clear H2 R2)
   go_loopw [15, 16] (fun v15 _ wr => ∃ (i : Nat) (cs : List Value), i ≤ 5 ∧ v15 = .int .i64 (((q + 32) / 2 ^ i : Nat) : Int) ∧ RdAt wr r (· ≠ b14) (Z i) false cs ∧ Own w wr [(b14, u8s (X i), 24), (b12, u8s K, 24), (r, cs, 130), (b8, u8s id, 22)]) (fun v15 _ _ => (intOf v15).toNat)
   case atStart => exact ⟨0, _, by omega, by rw [Nat.pow_zero, Nat.div_one]; rfl, R, H⟩
   case round =>
    clear H R
    obtain ⟨i, cs, hi, rfl, R, H⟩ := hrel
    by_cases hin5 : i < 5
    · obtain ⟨g1, g2, g3⟩ := path_r hqn hin5
      have hand := and_one _ g2
      have hr1 : Hid (∀ w1 L, Own w w1 ((r, cs, 130) :: L) → RdAt w1 r (· ≠ b14) (Z i) false cs → Calls Tryz.prog 50 #[.pointer (some ⟨r, 0, none⟩), .int .i64 32] w1 fun e w' => ∃ p c cs', e = .returned (.slice p 32 c) ∧ (Old w' (.slice p 32 c) (Y i) ∧ NewS w1.heap.size (.slice p 32 c)) ∧ RdAt w' r (· ≠ b14) (Z (i + 1)) false cs' ∧ Own w w' ((r, cs', 130) :: L)) := fun w1 L h1 h2 => hrr.out w1 r _ cs L i hin5 h1 h2
      have hyl := Hh (hYl.out i)
      have hyb := Hh (hYb.out i)
      have hxl := Hh (hXl.out i)
      have hxb := Hh (hXb.out i)
      have hxl' := Hh (hXl.out (i + 1))
      have hc1 := Hh (hX1.out i)
      have hc2 := Hh (hX2.out i)
      obtain ⟨m, hm0⟩ : ∃ m, m = (q + 32) / 2 ^ i := ⟨_, rfl⟩
      rw [← hm0] at g1 g2 g3 hand hc1 hc2 ⊢
      have g3' := Hh g3
      obtain ⟨Yi, hYi⟩ : ∃ y, y = Y i := ⟨_, rfl⟩
      obtain ⟨Xi, hXi⟩ : ∃ y, y = X i := ⟨_, rfl⟩
      obtain ⟨Xn, hXn⟩ : ∃ y, y = X (i + 1) := ⟨_, rfl⟩
      rw [← hYi] at hr1 hyl hyb hc1 hc2
      rw [← hXi] at H hxl hxb hc1 hc2
      rw [← hXn] at hxl' hc1 hc2
      have hXn' := Hh hXn
      clear hYi hXi hXn hm0 g3 hrr
      by_cases hodd : m % 2 = 1
      · have hand1 : bits .and .i64 (m : Int) 1 = 1 := by rw [hand]; omega
        have nd : Hid (∀ w' v, LitL [Yi, Xi] w' v → Calls Tryz.prog 52 #[.agg (u8s id).toArray, .int .i64 ((m : Int) / 2), .int .i64 33667, v] w' fun e w'' => e = .returned (.agg (u8s Xn).toArray) ∧ Own w' w'' []) := fun w' v h => by
         rw [← hc1.out hodd]
         have h2 := hin.out w' v (m / 2) _ _ (by omega) hyl.out hxl.out h
         rw [show ((m / 2 : Nat) : Int) = (m : Int) / 2 by omega] at h2
         exact h2
        clear hand
        go_wp2_with (go_at_call 50; refine (hr1.out _ _ (H.perm (List.perm_middle (l₁ := [_, _]) (l₂ := [_]))) R).mono ?_; rintro e w15 ⟨po, co, cs5, rfl, ⟨O, ON⟩, R2, H2⟩; clear H R)
        have H15 := Hh (H2.perm (List.perm_middle (l₁ := [_, _]) (l₂ := [_])).symm)
        have R15 := Hh R2
        have i1 : Hid (∀ w', Own w15 w' [] → ∀ j v, (u8s id)[j]? = some v → w'.cell? ⟨b8, 0 + j, none⟩ = some v) := fun w' h j v hj => by rw [(H15.out.call0 h).cell (.tail _ (.tail _ (.tail _ (.head _)))), Nat.zero_add]; exact hj
        have x1 : Hid (∀ w', Own w15 w' [] → BIn Xi w' (.slice (some ⟨b14, 0, none⟩) 32 32)) := fun w' h => (H15.out.call0 h).binAt (.head _) (fun j v hj => by rw [Nat.zero_add]; exact hj) hxl.out.symm (by omega)
        have o1 : Hid (∀ w', Own w15 w' [] → BIn Yi w' (.slice po 32 co)) := fun w' h => (Old.mv O h (by simp)).bin
        clear H2 R2 O ON
        refine region_grow 7 (by kernel_rfl) (by kernel_rfl) (by kernel_rfl) [.val (.agg (u8s id).toArray), .val (.int .i64 m), .val (.int .i64 ((m : Int) / 2)), .val (.slice po 32 co), .val (.slice (some ⟨b14, 0, none⟩) 32 32), .rel (LitL [Yi, Xi]), .val (.agg (u8s Xn).toArray)] rfl ?_
        have z3 := tt
        try go_frame
        repeat (first
         | (clear z3; refine sp_run (v := .agg (u8s id).toArray) rfl (fun w' hw' _ => rn_cells rfl rfl rfl rfl hszi.out (i1.out w' hw')) ?_; try go_frame; have z4 := tt)
         | (clear z4; refine sp_run (v := .slice (some ⟨b14, 0, none⟩) 32 32) rfl (fun w' hw' _ => rn_sliceAll rfl rfl size_u8 rfl (by omega)) ?_; try go_frame; have z5 := tt)
         | (clear z5; refine sp_rel (LitL.mono _) rfl (fun w' hw' hF => litL_build (e := 27) (l := [(.slice po 32 co, Yi), (.slice (some ⟨b14, 0, none⟩) 32 32, Xi)]) rfl rfl rfl (fun x hx => by simp only [List.mem_cons, List.not_mem_nil, or_false] at hx; rcases hx with rfl | rfl; exact ⟨o1.out w' hw', hyb.out⟩; exact ⟨x1.out w' hw', hxb.out⟩) (fun w' => by kernel_rfl)) ?_; intro v8; try go_frame; have z6 := tt)
         | (clear z6; refine sp_callN (v := .agg (u8s Xn).toArray) (args := #[.agg (u8s id).toArray, .int .i64 ((m : Int) / 2), .int .i64 33667, v8]) rfl rfl (by simp [Act.eval]) Tryz.func52 (by kernel_rfl) (by kernel_rfl) (fun w' _ hF => nd.out w' _ (hF.2 _ rfl (mE (by kernel_rfl)))) ?_; try go_frame; have z7 := tt)
         | (refine sp_val (fun w' hw' hF => ?_) ⟨_, rfl, nB rfl⟩ ?_
            · go_big_quiet_step (fail)
              exact rfl
            try go_frame))
        refine sp_nil ?_
        intro w16 hw' hF
        have H := H15.out.call0 hw'
        have R := R15.out.mv hw'
        clear hw' hF H15 R15 i1 x1 o1 nd
        simp only [List.drop_succ_cons, List.drop_zero]
        go_wp2_with (refine st_skip rfl (rn_storeAll (vs := u8s Xn) (H.sub1 (.head _)) rfl rfl rfl (size_hashL hxl'.out) .head (by rw [length_ints, length_ints, hxl'.out, hxl.out]) (oneCell_ints _ _)) ?_; intro w17 M; have H2 := Own.next (L := [_]) H M rfl; have R2 := R.mvG M (fun _ h => h); clear H R M; have H := H2; have R := R2; clear H2 R2)
        refine ⟨⟨i + 1, _, by omega, ?_, R, by rw [← hXn'.out]; exact H⟩, ?_⟩
        · rw [← g3'.out]; go_num
        · simp [intOf]; omega
      · have hand1 : bits .and .i64 (m : Int) 1 = 0 := by rw [hand]; omega
        have nd : Hid (∀ w' v, LitL [Xi, Yi] w' v → Calls Tryz.prog 52 #[.agg (u8s id).toArray, .int .i64 ((m : Int) / 2), .int .i64 33667, v] w' fun e w'' => e = .returned (.agg (u8s Xn).toArray) ∧ Own w' w'' []) := fun w' v h => by
         rw [← hc2.out hodd]
         have h2 := hin.out w' v (m / 2) _ _ (by omega) hxl.out hyl.out h
         rw [show ((m / 2 : Nat) : Int) = (m : Int) / 2 by omega] at h2
         exact h2
        clear hand
        go_wp2_with (go_at_call 50; refine (hr1.out _ _ (H.perm (List.perm_middle (l₁ := [_, _]) (l₂ := [_]))) R).mono ?_; rintro e w15 ⟨po, co, cs5, rfl, ⟨O, ON⟩, R2, H2⟩; clear H R)
        have H15 := Hh (H2.perm (List.perm_middle (l₁ := [_, _]) (l₂ := [_])).symm)
        have R15 := Hh R2
        have i1 : Hid (∀ w', Own w15 w' [] → ∀ j v, (u8s id)[j]? = some v → w'.cell? ⟨b8, 0 + j, none⟩ = some v) := fun w' h j v hj => by rw [(H15.out.call0 h).cell (.tail _ (.tail _ (.tail _ (.head _)))), Nat.zero_add]; exact hj
        have x1 : Hid (∀ w', Own w15 w' [] → BIn Xi w' (.slice (some ⟨b14, 0, none⟩) 32 32)) := fun w' h => (H15.out.call0 h).binAt (.head _) (fun j v hj => by rw [Nat.zero_add]; exact hj) hxl.out.symm (by omega)
        have o1 : Hid (∀ w', Own w15 w' [] → BIn Yi w' (.slice po 32 co)) := fun w' h => (Old.mv O h (by simp)).bin
        clear H2 R2 O ON
        refine region_grow 7 (by kernel_rfl) (by kernel_rfl) (by kernel_rfl) [.val (.agg (u8s id).toArray), .val (.int .i64 m), .val (.int .i64 ((m : Int) / 2)), .val (.slice (some ⟨b14, 0, none⟩) 32 32), .val (.slice po 32 co), .rel (LitL [Xi, Yi]), .val (.agg (u8s Xn).toArray)] rfl ?_
        have z3 := tt
        try go_frame
        repeat (first
         | (clear z3; refine sp_run (v := .agg (u8s id).toArray) rfl (fun w' hw' _ => rn_cells rfl rfl rfl rfl hszi.out (i1.out w' hw')) ?_; try go_frame; have z4 := tt)
         | (clear z4; refine sp_run (v := .slice (some ⟨b14, 0, none⟩) 32 32) rfl (fun w' hw' _ => rn_sliceAll rfl rfl size_u8 rfl (by omega)) ?_; try go_frame; have z5 := tt)
         | (clear z5; refine sp_rel (LitL.mono _) rfl (fun w' hw' hF => litL_build (e := 27) (l := [(.slice (some ⟨b14, 0, none⟩) 32 32, Xi), (.slice po 32 co, Yi)]) rfl rfl rfl (fun x hx => by simp only [List.mem_cons, List.not_mem_nil, or_false] at hx; rcases hx with rfl | rfl; exact ⟨x1.out w' hw', hxb.out⟩; exact ⟨o1.out w' hw', hyb.out⟩) (fun w' => by kernel_rfl)) ?_; intro v8; try go_frame; have z6 := tt)
         | (clear z6; refine sp_callN (v := .agg (u8s Xn).toArray) (args := #[.agg (u8s id).toArray, .int .i64 ((m : Int) / 2), .int .i64 33667, v8]) rfl rfl (by simp [Act.eval]) Tryz.func52 (by kernel_rfl) (by kernel_rfl) (fun w' _ hF => nd.out w' _ (hF.2 _ rfl (mE (by kernel_rfl)))) ?_; try go_frame; have z7 := tt)
         | (refine sp_val (fun w' hw' hF => ?_) ⟨_, rfl, nB rfl⟩ ?_
            · go_big_quiet_step (fail)
              exact rfl
            try go_frame))
        refine sp_nil ?_
        intro w16 hw' hF
        have H := H15.out.call0 hw'
        have R := R15.out.mv hw'
        clear hw' hF H15 R15 i1 x1 o1 nd
        simp only [List.drop_succ_cons, List.drop_zero]
        go_wp2_with (refine st_skip rfl (rn_storeAll (vs := u8s Xn) (H.sub1 (.head _)) rfl rfl rfl (size_hashL hxl'.out) .head (by rw [length_ints, length_ints, hxl'.out, hxl.out]) (oneCell_ints _ _)) ?_; intro w17 M; have H2 := Own.next (L := [_]) H M rfl; have R2 := R.mvG M (fun _ h => h); clear H R M; have H := H2; have R := R2; clear H2 R2)
        refine ⟨⟨i + 1, _, by omega, ?_, R, by rw [← hXn'.out]; exact H⟩, ?_⟩
        · rw [← g3'.out]; go_num
        · simp [intOf]; omega
    · obtain rfl : i = 5 := by omega
      have hend := path_end hqn
      rw [hend]
      clear hend hrr hin hX1 hX2
      have hx5 := Hh (hXl.out 5)
      obtain ⟨X5, hX5⟩ : ∃ y, y = X 5 := ⟨_, rfl⟩
      rw [← hX5] at H hx5 heq hAN'
      clear hX5
      have HW := Hh H
      have hp0 : Hid (∀ w', Own wr w' [] → Own w w' []) := fun w' h => (HW.out.call0 h).end0 (by have := hgw.out; simp; omega)
      have xc : Hid (∀ w', Own wr w' [] → ∀ j v, (u8s X5)[j]? = some v → w'.cell? ⟨b14, 0 + j, none⟩ = some v) := fun w' h j v hj => by rw [(HW.out.call0 h).cell (.head _), Nat.zero_add]; exact hj
      clear H R
      go_wp2_with fail
      by_cases hxr : X5 = RT
      · have eZ : ∀ w, (Op.equalIn 10000 24 (.agg (u8s X5).toArray) (.agg (u8s RT).toArray)).run Tryz.prog w = .ok true w := fun w => by rw [heq.out w, decide_eq_true hxr]
        have hAN2 : Hid (ANS = 0) := hAN'.out.trans (by simp [hxr])
        clear heq hxr hAN'
        refine region_grow 6 (by kernel_rfl) (by kernel_rfl) (by kernel_rfl) [.val (.agg (u8s X5).toArray), .val (.slice (some ⟨bp, op, none⟩) 56 cp), .val (.slice (some ⟨bp, op + 24, none⟩) 32 (cp - 24)), .val (.pointer (some ⟨bp, op + 24, none⟩)), .val (.agg (u8s RT).toArray), .val (.bool false)] rfl ?_
        have z3 := tt
        try go_frame
        repeat (first
         | (clear z3; refine sp_run (v := .agg (u8s X5).toArray) rfl (fun w' hw' _ => rn_cells rfl rfl rfl rfl (size_hashL hx5.out) (xc.out w' hw')) ?_; try go_frame; have z4 := tt)
         | (clear z4; refine sp_run (v := .slice (some ⟨bp, op + 24, none⟩) 32 (cp - 24)) rfl (fun w' hw' _ => rn_part (l := 24) (h := 56) rfl rfl size_u8 rfl (by exact .yes rfl) (by exact .no _) (by omega) (by omega) hpc rfl rfl) ?_; try go_frame; have z5 := tt)
         | (clear z5; refine sp_run (v := .pointer (some ⟨bp, op + 24, none⟩)) rfl (fun w' hw' _ => rn_arrAt rfl rfl rfl (by omega)) ?_; try go_frame; have z6 := tt)
         | (clear z6; refine sp_run (v := .agg (u8s RT).toArray) rfl (fun w' hw' _ => rn_cells rfl rfl rfl rfl (size_hashL hrtl.out) (hrtc.out w' (hp0.out w' hw'))) ?_; try go_frame; have z7 := tt)
         | (refine sp_val (fun w' hw' hF => ?_) ⟨_, rfl, nB rfl⟩ ?_
            · go_big_quiet_step (fail)
              exact rfl
            try go_frame))
        refine sp_nil ?_
        intro w18 hw' hF
        have HE := Hh (hp0.out _ hw')
        clear hw' hF
        simp only [List.drop_succ_cons, List.drop_zero]
        go_wp2_with fail
        go_ret
        exact ⟨by rw [hAN2.out]; rfl, HE.out⟩
      · have eZ : ∀ w, (Op.equalIn 10000 24 (.agg (u8s X5).toArray) (.agg (u8s RT).toArray)).run Tryz.prog w = .ok false w := fun w => by rw [heq.out w, decide_eq_false hxr]
        have hAN2 : Hid (ANS = 3) := hAN'.out.trans (by simp [hxr])
        clear heq hxr hAN'
        refine region_grow 6 (by kernel_rfl) (by kernel_rfl) (by kernel_rfl) [.val (.agg (u8s X5).toArray), .val (.slice (some ⟨bp, op, none⟩) 56 cp), .val (.slice (some ⟨bp, op + 24, none⟩) 32 (cp - 24)), .val (.pointer (some ⟨bp, op + 24, none⟩)), .val (.agg (u8s RT).toArray), .val (.bool true)] rfl ?_
        have z3 := tt
        try go_frame
        repeat (first
         | (clear z3; refine sp_run (v := .agg (u8s X5).toArray) rfl (fun w' hw' _ => rn_cells rfl rfl rfl rfl (size_hashL hx5.out) (xc.out w' hw')) ?_; try go_frame; have z4 := tt)
         | (clear z4; refine sp_run (v := .slice (some ⟨bp, op + 24, none⟩) 32 (cp - 24)) rfl (fun w' hw' _ => rn_part (l := 24) (h := 56) rfl rfl size_u8 rfl (by exact .yes rfl) (by exact .no _) (by omega) (by omega) hpc rfl rfl) ?_; try go_frame; have z5 := tt)
         | (clear z5; refine sp_run (v := .pointer (some ⟨bp, op + 24, none⟩)) rfl (fun w' hw' _ => rn_arrAt rfl rfl rfl (by omega)) ?_; try go_frame; have z6 := tt)
         | (clear z6; refine sp_run (v := .agg (u8s RT).toArray) rfl (fun w' hw' _ => rn_cells rfl rfl rfl rfl (size_hashL hrtl.out) (hrtc.out w' (hp0.out w' hw'))) ?_; try go_frame; have z7 := tt)
         | (refine sp_val (fun w' hw' hF => ?_) ⟨_, rfl, nB rfl⟩ ?_
            · go_big_quiet_step (fail)
              exact rfl
            try go_frame))
        refine sp_nil ?_
        intro w18 hw' hF
        have HE := Hh (hp0.out _ hw')
        clear hw' hF
        simp only [List.drop_succ_cons, List.drop_zero]
        go_wp2_with fail
        go_ret
        exact ⟨by rw [hAN2.out]; rfl, HE.out⟩
theorem ver_any (w : World) (pv mv sv : Value) (pub msg sig : List Int) (hp : Old w pv pub) (hpb : IsBytes pub) (hpl : pub.length ≤ 1000000) (hm : Old w mv msg) (hmb : IsBytes msg) (hml : msg.length ≤ 90000) (hs : Old w sv sig) (hsb : IsBytes sig) (hsl : sig.length ≤ 1000000) :
 Calls Tryz.prog 18 #[pv, mv, sv] w fun e w' => e = .returned (.int .i64 (verL pub msg sig)) ∧ Own w w' [] := by
 unfold verL
 rcases widthV_cases pub.length (num4V pub false) (num4V (num4X pub false) (num4W pub false)) with h0 | ⟨h1, _, h3, _⟩
 · have h0' : widthL pub = 0 := h0
   rw [if_pos h0']
   exact ver_bad w pv mv sv pub hp hpb hpl h0'
 · have h3' : widthL pub = 1 ∨ widthL pub = 2 ∨ widthL pub = 4 ∨ widthL pub = 8 := h3
   rw [if_neg (by omega)]
   unfold verK
   by_cases h4 : sig.length = sizeOfL (widthL pub)
   · rw [if_pos h4]
     by_cases h5 : vOk (widthL pub) sig = true
     · rw [if_pos h5]
       exact ver_main w pv mv sv pub sig hp hpb hs hsb hsl _ h3' rfl h1 msg hm hmb hml h4 h5
     · rw [if_neg h5]
       exact ver_hd w pv mv sv pub sig hp hpb hs hsb hsl _ h3' rfl h1 h4 (by simpa using h5)
   · rw [if_neg h4]
     exact ver_len w pv mv sv pub sig hp hpb hs hsb hsl _ h3' rfl h1 h4
end Go.Proofs.YtfihlmnbonnekaaGreat
