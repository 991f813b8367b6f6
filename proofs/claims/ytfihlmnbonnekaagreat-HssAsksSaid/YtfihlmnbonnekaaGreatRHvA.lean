/- the document's VerifyKey. -/
import Derived.Test.YtfihlmnbonnekaaGreatHVer
import Derived.Test.YtfihlmnbonnekaaGreatRVer
namespace Go.Proofs.YtfihlmnbonnekaaGreat
open Go.RowKit
set_option maxHeartbeats 32000000
set_option linter.unusedVariables false
theorem rn_to6 {P : Program} {o : Oper} {a : Act} {w : World} {t e : TypeId} {x : Operand} {hi : Option Operand} (ho : o.op = .slice t x none hi none) (hu : P.underlying t = some (.slice e)) (hs : (P.info? e).map (·.size) = some 1) {b off n c h : Nat} (hx : a.eval x = .slice (some ⟨b, off, none⟩) n c)
 (hh : BoundIs (hi.map a.eval) n h) (h2 : h ≤ n) (h3 : n ≤ c) : (execOp a.eval o).run P w = .ok (.value (.slice (some ⟨b, off, none⟩) h c)) w := by
 unfold execOp
 simp only [ho]
 generalize hi.map a.eval = hiv at hh ⊢
 have e1 : h ≤ c := by omega
 cases hh with
 | no => simp [hx, Instr.sliceAt, Instr.slice, Sem.run_bind, run_underlying hu, Instr.sliceBounds, run_sizeOf hs, add_plain]
 | yes h' =>
   subst h'
   simp [hx, Instr.sliceAt, Instr.slice, Sem.run_bind, run_underlying hu, Instr.sliceBounds, Instr.sliceBound, asIntOf, run_sizeOf hs, add_plain, e1]
theorem Old.to6 {w : World} {b off n c h : Nat} {xs : List Int} (H : Old w (.slice (some ⟨b, off, none⟩) n c) xs) (hn : n = xs.length) (h2 : h ≤ n) (h3 : n ≤ c) (h0 : 0 < n) : Old w (.slice (some ⟨b, off, none⟩) h c) (xs.take h) := by
 have hl2 : (xs.take h).length = h := by rw [List.length_take]; omega
 obtain ⟨h1, h4⟩ := H
 have hb : b < w.heap.size := World.block_lt_of_cell? w _ (byte_of h1 (show 0 < xs.length by omega))
 refine ⟨?_, fun k hk => by obtain rfl := (blk_some hk).1; exact hb⟩
 rw [BytesAt, hl2]
 refine Or.inr ⟨b, off, c, rfl, ⟨by omega, fun h => List.eq_nil_of_length_eq_zero (by rw [length_ints, hl2]; exact h)⟩, fun i x hx => ?_⟩
 have hi : i < h := by have := (List.getElem?_eq_some_iff.1 hx).1; simp at this; omega
 rw [ints_get (by rw [hl2]; exact hi)] at hx
 cases hx
 rw [byte_of h1 (show i < xs.length by omega), List.getElem?_take_of_lt hi]
theorem yields_sub {P : Program} {o : Oper} {a : Act} {w : World} {t : TypeId} {x : Operand} {lo hi : Option Operand} (ho : o.op = .slice t x lo hi none) {e : TypeId} (hu : P.underlying t = some (.slice e)) (hsz : (P.info? e).map (·.size) = some 1) {p0 : Option Addr} {n c0 : Nat}
 (hx : a.eval x = .slice p0 n c0) {xs : List Int} (h : Old w (.slice p0 n c0) xs) (hn : n = xs.length) {l h' : Nat} (hl : BoundIs (lo.map a.eval) 0 l) (hh : BoundIs (hi.map a.eval) n h') (h1 : l ≤ h') (h2 : h' ≤ n) {zs : List Int} (hz : (xs.drop l).take (h' - l) = zs) {m : Nat} (hm : zs.length = m) :
 YieldsTo P o a w (fun v w' => Own w w' [] ∧ SlB m zs w' v) := by
 obtain ⟨p, c, g1, g2, g3⟩ := sub_old ho hu hsz hx h hn hl hh h1 h2 hz
 subst hm
 exact yieldsTo_val' (g1 w) ⟨Own.refl _, p, c, rfl, g2, g3⟩
set_option maxRecDepth 100000 in
theorem rhver_sig1 (w : World) (pv mv sv : Value) (pub msg sig : List Int) (hp : Old w pv pub) (hpb : IsBytes pub) (hm : Old w mv msg) (hmb : IsBytes msg) (hml : msg.length ≤ 90000) (hs : Old w sv sig) (hsb : IsBytes sig) (h60 : pub.length = 60) (r : List Int) (hpub : pub = 0 :: 0 :: 0 :: 1 :: r) (hw : widthL (pub.drop 4) ≠ 0) (hs4 : 4 ≤ sig.length) (hS : ¬ sig.take 4 = numB (0 : Int) 4) :
 Calls Tryz.prog 31 #[pv, mv, sv] w fun e w' => e = .returned (.int .i64 3) ∧ Own w w' [] := by
 have H := Own.refl w
 obtain ⟨bp, op, cp, e1, hcp⟩ := hp.at0 (by omega)
 subst e1
 rw [h60] at hp hcp ⊢
 have hb : BytesAt w (.slice (some ⟨bp, op, none⟩) 60 cp) pub := hp.1
 have hpe := hpub
 obtain ⟨key, hkey⟩ : ∃ k, k = pub.drop 4 := ⟨_, rfl⟩
 have hK : Hid (Old w (.slice (some ⟨bp, op + 4, none⟩) 56 (cp - 4)) key) := by rw [hkey]; exact hp.drop4 h60.symm hcp
 have hkb : IsBytes key := by rw [hkey]; exact isBytes_dropH hpb 4
 have hkl : key.length = 56 := by rw [hkey, List.length_drop, h60]
 have c0 : Hid (w.cell? ⟨bp, op + 0, none⟩ = some (.int .u8 0)) := by show _ = _; exact bytes_cellV (n := 60) (c := cp) (by rw [BytesAt] at hb; exact hb) 0 _ (by rw [hpub]; rfl)
 have c1 : Hid (w.cell? ⟨bp, op + 1, none⟩ = some (.int .u8 0)) := by show _ = _; exact bytes_cellV (n := 60) (c := cp) (by rw [BytesAt] at hb; exact hb) 1 _ (by rw [hpub]; rfl)
 have c2 : Hid (w.cell? ⟨bp, op + 2, none⟩ = some (.int .u8 0)) := by show _ = _; exact bytes_cellV (n := 60) (c := cp) (by rw [BytesAt] at hb; exact hb) 2 _ (by rw [hpub]; rfl)
 have c3 : Hid (w.cell? ⟨bp, op + 3, none⟩ = some (.int .u8 1)) := by show _ = _; exact bytes_cellV (n := 60) (c := cp) (by rw [BytesAt] at hb; exact hb) 3 _ (by rw [hpub]; rfl)
 rw [← hkey] at hw
 have hfo : Hid (∀ w' v, Old w' v key → Calls Tryz.prog 21 #[v] w' fun e w'' => e = .returned (.bool true) ∧ Own w' w'' []) := fun w' v h => by
  have h1 := rform_any w' v key h hkb
  rwa [show decide (0 < widthL key) = true from decide_eq_true (by omega)] at h1
 have hnot : ∀ (x : Bool) (w : World), (Op.unary .not (.bool x)).run Tryz.prog w = .ok (.bool (!x)) w := fun _ _ => rfl
 obtain ⟨bs, os, cs, e2, hcs⟩ := hs.at0 (by omega)
 subst e2
 obtain ⟨n, hn⟩ : ∃ n, n = sig.length := ⟨_, rfl⟩
 have hsO := Hh hs
 rw [← hn] at hs4 hcs hs hsO ⊢
 have h4O : Hid (Old w (.slice (some ⟨bs, os, none⟩) 4 cs) (sig.take 4)) := by show Old _ _ _; exact Old.to6 hs hn (by omega) hcs (by omega)
 have hT4 : IsBytes (sig.take 4) := isBytes_take hsb 4
 obtain ⟨T4, hT40⟩ : ∃ T, T = sig.take 4 := ⟨_, rfl⟩
 rw [← hT40] at h4O hT4
 rw [← hT40] at hS
 have hnm : Hid (∀ w', Calls Tryz.prog 42 #[.int .u64 0, .int .i64 4] w' fun e w'' => ∃ r, e = .returned r ∧ BIn (numB (0 : Int) 4) w'' r ∧ Own w' w'' []) := fun w' => refNum_any w' 0 4 (by omega) (by omega)
 have hsm : Hid (∀ w' v u, Old w' v T4 → BIn (numB (0 : Int) 4) w' u → Calls Tryz.prog 11 #[v, u] w' fun e w'' => e = .returned (.bool false) ∧ Own w' w'' []) := fun w' v u h1 h2 => by
  have h := same_any w' v u _ _ h1.1 h2.2.1 hT4 (isBytes_numB _ _)
  rwa [decide_eq_false hS] at h
 clear hp hpb hm hmb hml hs hsb hpub hpe hb h60 hkey hkb hkl hw hn hT4 hT40 hS hsO
 go_enter Tryz.func31, Tryz.ntmps31
 have z1 := tt
 go_wp2_with (first
  | (refine st_valG rfl (rn_idxSlN (j := 0) (q := op + 0) rfl rfl size_u8 rfl rfl rfl (by omega) rfl) ?_)
  | (refine st_valG rfl (rn_idxSlN (j := 1) (q := op + 1) rfl rfl size_u8 rfl rfl rfl (by omega) rfl) ?_)
  | (refine st_valG rfl (rn_idxSlN (j := 2) (q := op + 2) rfl rfl size_u8 rfl rfl rfl (by omega) rfl) ?_)
  | (refine st_valG rfl (rn_idxSlN (j := 3) (q := op + 3) rfl rfl size_u8 rfl rfl rfl (by omega) rfl) ?_)
  | (refine st_valG rfl (rn_cell (i := op + 0) rfl rfl rfl rfl c0.out) ?_)
  | (refine st_valG rfl (rn_cell (i := op + 1) rfl rfl rfl rfl c1.out) ?_)
  | (refine st_valG rfl (rn_cell (i := op + 2) rfl rfl rfl rfl c2.out) ?_)
  | (refine st_valG rfl (rn_cell (i := op + 3) rfl rfl rfl rfl c3.out) ?_)
  | (refine st_valG rfl (rn_part (l := 4) (h := 60) (m := 56) (d := cp - 4) rfl rfl size_u8 rfl (by exact .yes rfl) (by exact .no _) (by omega) (by omega) hcp rfl rfl) ?_)
  | (clear z1; go_at_call 21; refine (hfo.out _ _ (hK.out.mv H (by simp))).mono ?_; rintro e w4 ⟨rfl, h3⟩; replace H := H.call0 h3; clear h3; have z2 := tt))
 have H4 := Hh H
 clear H
 have hd1 : decide ((n : Int) < 4) = false := decide_eq_false (by omega)
 have hd2 : decide (n < 4) = false := decide_eq_false (by omega)
 have k3 : Hid (∀ w', Own w4 w' [] → w'.cell? ⟨bp, op + 3, none⟩ = some (.int .u8 1)) := fun w' h => (H4.out.trans h).old c3.out (by simp)
 have h4w : Hid (∀ w', Own w4 w' [] → Old w' (.slice (some ⟨bs, os, none⟩) 4 cs) T4) := fun w' h => h4O.out.mv (H4.out.trans h) (by simp)
 refine region_grow 15 (by kernel_rfl) (by kernel_rfl) (by kernel_rfl) [.val (.slice (some ⟨bs, os, none⟩) n cs), .val (.int .i64 n), .val (.bool false), .val (.bool false), .val (.slice (some ⟨bs, os, none⟩) n cs), .val (.slice (some ⟨bs, os, none⟩) 4 cs), .val (.slice (some ⟨bp, op, none⟩) 60 cp), .val (.pointer (some ⟨bp, op + 3, none⟩)), .val (.int .u8 1), .val (.int .u64 1), .val (.int .u64 0), .rel (BIn (numB (0 : Int) 4)), .val (.bool false), .val (.bool true), .val (.bool true)] rfl ?_
 have z3 := tt
 try go_frame
 repeat (first
  | (clear z3; refine sp_run (v := .slice (some ⟨bs, os, none⟩) 4 cs) rfl (fun w' hw' _ => rn_to6 (h := 4) rfl rfl size_u8 rfl (by exact .yes rfl) (by omega) hcs) ?_; try go_frame; have z4 := tt)
  | (clear z4; refine sp_run (v := .pointer (some ⟨bp, op + 3, none⟩)) rfl (fun w' hw' _ => rn_idxSlN (j := 3) (q := op + 3) rfl rfl size_u8 rfl rfl rfl (by omega) rfl) ?_; try go_frame; have z5 := tt)
  | (clear z5; refine sp_run (v := .int .u8 1) rfl (fun w' hw' _ => rn_cell (i := op + 3) rfl rfl rfl rfl (k3.out w' hw')) ?_; try go_frame; have z6 := tt)
  | (clear z6; refine sp_callR (args := #[.int .u64 0, .int .i64 4]) (BIn.mono _) rfl rfl (by simp [Act.eval]) Tryz.func42 (by kernel_rfl) (by kernel_rfl) (fun w' hw' _ => hnm.out w') ?_; intro v58; try go_frame; have z7 := tt)
  | (clear z7; refine sp_callN (v := .bool false) (args := #[.slice (some ⟨bs, os, none⟩) 4 cs, v58]) rfl rfl (by simp [Act.eval]) Tryz.func11 (by kernel_rfl) (by kernel_rfl) (fun w' hw' hF => hsm.out w' _ _ (h4w.out w' hw') (hF.2 _ rfl (mE (by kernel_rfl)))) ?_; try go_frame; have z8 := tt)
  | (refine sp_skip rfl ?_; try go_frame)
  | (refine sp_val (fun w' hw' hF => ?_) ⟨_, rfl, nB rfl⟩ ?_
     · go_big_quiet_step (fail)
       exact rfl
     try go_frame))
 refine sp_nil ?_
 intro w5 hw' hF
 have H := H4.out.trans hw'
 clear hw' hF k3 h4w H4 hnm hsm
 simp only [List.drop_succ_cons, List.drop_zero]
 have HE := Hh H
 clear H
 go_wp2_with fail
 go_ret
 exact ⟨rfl, HE.out⟩
set_option maxRecDepth 100000 in
theorem rhver_sig2 (w : World) (pv mv sv : Value) (pub msg sig : List Int) (hp : Old w pv pub) (hpb : IsBytes pub) (hm : Old w mv msg) (hmb : IsBytes msg) (hml : msg.length ≤ 90000) (hs : Old w sv sig) (hsb : IsBytes sig) (h60 : pub.length = 60) (r : List Int) (hpub : pub = 0 :: 0 :: 0 :: 2 :: r) (hw : widthL (pub.drop 4) ≠ 0) (hs4 : 4 ≤ sig.length) (hS : ¬ sig.take 4 = numB (1 : Int) 4) :
 Calls Tryz.prog 31 #[pv, mv, sv] w fun e w' => e = .returned (.int .i64 3) ∧ Own w w' [] := by
 have H := Own.refl w
 obtain ⟨bp, op, cp, e1, hcp⟩ := hp.at0 (by omega)
 subst e1
 rw [h60] at hp hcp ⊢
 have hb : BytesAt w (.slice (some ⟨bp, op, none⟩) 60 cp) pub := hp.1
 have hpe := hpub
 obtain ⟨key, hkey⟩ : ∃ k, k = pub.drop 4 := ⟨_, rfl⟩
 have hK : Hid (Old w (.slice (some ⟨bp, op + 4, none⟩) 56 (cp - 4)) key) := by rw [hkey]; exact hp.drop4 h60.symm hcp
 have hkb : IsBytes key := by rw [hkey]; exact isBytes_dropH hpb 4
 have hkl : key.length = 56 := by rw [hkey, List.length_drop, h60]
 have c0 : Hid (w.cell? ⟨bp, op + 0, none⟩ = some (.int .u8 0)) := by show _ = _; exact bytes_cellV (n := 60) (c := cp) (by rw [BytesAt] at hb; exact hb) 0 _ (by rw [hpub]; rfl)
 have c1 : Hid (w.cell? ⟨bp, op + 1, none⟩ = some (.int .u8 0)) := by show _ = _; exact bytes_cellV (n := 60) (c := cp) (by rw [BytesAt] at hb; exact hb) 1 _ (by rw [hpub]; rfl)
 have c2 : Hid (w.cell? ⟨bp, op + 2, none⟩ = some (.int .u8 0)) := by show _ = _; exact bytes_cellV (n := 60) (c := cp) (by rw [BytesAt] at hb; exact hb) 2 _ (by rw [hpub]; rfl)
 have c3 : Hid (w.cell? ⟨bp, op + 3, none⟩ = some (.int .u8 2)) := by show _ = _; exact bytes_cellV (n := 60) (c := cp) (by rw [BytesAt] at hb; exact hb) 3 _ (by rw [hpub]; rfl)
 rw [← hkey] at hw
 have hfo : Hid (∀ w' v, Old w' v key → Calls Tryz.prog 21 #[v] w' fun e w'' => e = .returned (.bool true) ∧ Own w' w'' []) := fun w' v h => by
  have h1 := rform_any w' v key h hkb
  rwa [show decide (0 < widthL key) = true from decide_eq_true (by omega)] at h1
 have hnot : ∀ (x : Bool) (w : World), (Op.unary .not (.bool x)).run Tryz.prog w = .ok (.bool (!x)) w := fun _ _ => rfl
 obtain ⟨bs, os, cs, e2, hcs⟩ := hs.at0 (by omega)
 subst e2
 obtain ⟨n, hn⟩ : ∃ n, n = sig.length := ⟨_, rfl⟩
 have hsO := Hh hs
 rw [← hn] at hs4 hcs hs hsO ⊢
 have h4O : Hid (Old w (.slice (some ⟨bs, os, none⟩) 4 cs) (sig.take 4)) := by show Old _ _ _; exact Old.to6 hs hn (by omega) hcs (by omega)
 have hT4 : IsBytes (sig.take 4) := isBytes_take hsb 4
 obtain ⟨T4, hT40⟩ : ∃ T, T = sig.take 4 := ⟨_, rfl⟩
 rw [← hT40] at h4O hT4
 rw [← hT40] at hS
 have hnm : Hid (∀ w', Calls Tryz.prog 42 #[.int .u64 1, .int .i64 4] w' fun e w'' => ∃ r, e = .returned r ∧ BIn (numB (1 : Int) 4) w'' r ∧ Own w' w'' []) := fun w' => refNum_any w' 1 4 (by omega) (by omega)
 have hsm : Hid (∀ w' v u, Old w' v T4 → BIn (numB (1 : Int) 4) w' u → Calls Tryz.prog 11 #[v, u] w' fun e w'' => e = .returned (.bool false) ∧ Own w' w'' []) := fun w' v u h1 h2 => by
  have h := same_any w' v u _ _ h1.1 h2.2.1 hT4 (isBytes_numB _ _)
  rwa [decide_eq_false hS] at h
 clear hp hpb hm hmb hml hs hsb hpub hpe hb h60 hkey hkb hkl hw hn hT4 hT40 hS hsO
 go_enter Tryz.func31, Tryz.ntmps31
 have z1 := tt
 go_wp2_with (first
  | (refine st_valG rfl (rn_idxSlN (j := 0) (q := op + 0) rfl rfl size_u8 rfl rfl rfl (by omega) rfl) ?_)
  | (refine st_valG rfl (rn_idxSlN (j := 1) (q := op + 1) rfl rfl size_u8 rfl rfl rfl (by omega) rfl) ?_)
  | (refine st_valG rfl (rn_idxSlN (j := 2) (q := op + 2) rfl rfl size_u8 rfl rfl rfl (by omega) rfl) ?_)
  | (refine st_valG rfl (rn_idxSlN (j := 3) (q := op + 3) rfl rfl size_u8 rfl rfl rfl (by omega) rfl) ?_)
  | (refine st_valG rfl (rn_cell (i := op + 0) rfl rfl rfl rfl c0.out) ?_)
  | (refine st_valG rfl (rn_cell (i := op + 1) rfl rfl rfl rfl c1.out) ?_)
  | (refine st_valG rfl (rn_cell (i := op + 2) rfl rfl rfl rfl c2.out) ?_)
  | (refine st_valG rfl (rn_cell (i := op + 3) rfl rfl rfl rfl c3.out) ?_)
  | (refine st_valG rfl (rn_part (l := 4) (h := 60) (m := 56) (d := cp - 4) rfl rfl size_u8 rfl (by exact .yes rfl) (by exact .no _) (by omega) (by omega) hcp rfl rfl) ?_)
  | (clear z1; go_at_call 21; refine (hfo.out _ _ (hK.out.mv H (by simp))).mono ?_; rintro e w4 ⟨rfl, h3⟩; replace H := H.call0 h3; clear h3; have z2 := tt))
 have H4 := Hh H
 clear H
 have hd1 : decide ((n : Int) < 4) = false := decide_eq_false (by omega)
 have hd2 : decide (n < 4) = false := decide_eq_false (by omega)
 have k3 : Hid (∀ w', Own w4 w' [] → w'.cell? ⟨bp, op + 3, none⟩ = some (.int .u8 2)) := fun w' h => (H4.out.trans h).old c3.out (by simp)
 have h4w : Hid (∀ w', Own w4 w' [] → Old w' (.slice (some ⟨bs, os, none⟩) 4 cs) T4) := fun w' h => h4O.out.mv (H4.out.trans h) (by simp)
 refine region_grow 15 (by kernel_rfl) (by kernel_rfl) (by kernel_rfl) [.val (.slice (some ⟨bs, os, none⟩) n cs), .val (.int .i64 n), .val (.bool false), .val (.bool false), .val (.slice (some ⟨bs, os, none⟩) n cs), .val (.slice (some ⟨bs, os, none⟩) 4 cs), .val (.slice (some ⟨bp, op, none⟩) 60 cp), .val (.pointer (some ⟨bp, op + 3, none⟩)), .val (.int .u8 2), .val (.int .u64 2), .val (.int .u64 1), .rel (BIn (numB (1 : Int) 4)), .val (.bool false), .val (.bool true), .val (.bool true)] rfl ?_
 have z3 := tt
 try go_frame
 repeat (first
  | (clear z3; refine sp_run (v := .slice (some ⟨bs, os, none⟩) 4 cs) rfl (fun w' hw' _ => rn_to6 (h := 4) rfl rfl size_u8 rfl (by exact .yes rfl) (by omega) hcs) ?_; try go_frame; have z4 := tt)
  | (clear z4; refine sp_run (v := .pointer (some ⟨bp, op + 3, none⟩)) rfl (fun w' hw' _ => rn_idxSlN (j := 3) (q := op + 3) rfl rfl size_u8 rfl rfl rfl (by omega) rfl) ?_; try go_frame; have z5 := tt)
  | (clear z5; refine sp_run (v := .int .u8 2) rfl (fun w' hw' _ => rn_cell (i := op + 3) rfl rfl rfl rfl (k3.out w' hw')) ?_; try go_frame; have z6 := tt)
  | (clear z6; refine sp_callR (args := #[.int .u64 1, .int .i64 4]) (BIn.mono _) rfl rfl (by simp [Act.eval]) Tryz.func42 (by kernel_rfl) (by kernel_rfl) (fun w' hw' _ => hnm.out w') ?_; intro v58; try go_frame; have z7 := tt)
  | (clear z7; refine sp_callN (v := .bool false) (args := #[.slice (some ⟨bs, os, none⟩) 4 cs, v58]) rfl rfl (by simp [Act.eval]) Tryz.func11 (by kernel_rfl) (by kernel_rfl) (fun w' hw' hF => hsm.out w' _ _ (h4w.out w' hw') (hF.2 _ rfl (mE (by kernel_rfl)))) ?_; try go_frame; have z8 := tt)
  | (refine sp_skip rfl ?_; try go_frame)
  | (refine sp_val (fun w' hw' hF => ?_) ⟨_, rfl, nB rfl⟩ ?_
     · go_big_quiet_step (fail)
       exact rfl
     try go_frame))
 refine sp_nil ?_
 intro w5 hw' hF
 have H := H4.out.trans hw'
 clear hw' hF k3 h4w H4 hnm hsm
 simp only [List.drop_succ_cons, List.drop_zero]
 have HE := Hh H
 clear H
 go_wp2_with fail
 go_ret
 exact ⟨rfl, HE.out⟩
set_option maxRecDepth 100000 in
theorem rhver_1 (w : World) (pv mv sv : Value) (pub msg sig : List Int) (hp : Old w pv pub) (hpb : IsBytes pub) (hm : Old w mv msg) (hmb : IsBytes msg) (hml : msg.length ≤ 90000) (hs : Old w sv sig) (hsb : IsBytes sig) (h60 : pub.length = 60) (r : List Int) (hpub : pub = 0 :: 0 :: 0 :: 1 :: r) (hw : widthL (pub.drop 4) ≠ 0) (hs4 : 4 ≤ sig.length) (hS : sig.take 4 = numB (0 : Int) 4) :
 Calls Tryz.prog 31 #[pv, mv, sv] w fun e w' => e = .returned (.int .i64 (verL (pub.drop 4) msg (sig.drop 4))) ∧ Own w w' [] := by
 have H := Own.refl w
 obtain ⟨bp, op, cp, e1, hcp⟩ := hp.at0 (by omega)
 subst e1
 rw [h60] at hp hcp ⊢
 have hb : BytesAt w (.slice (some ⟨bp, op, none⟩) 60 cp) pub := hp.1
 have hpe := hpub
 obtain ⟨key, hkey⟩ : ∃ k, k = pub.drop 4 := ⟨_, rfl⟩
 have hK : Hid (Old w (.slice (some ⟨bp, op + 4, none⟩) 56 (cp - 4)) key) := by rw [hkey]; exact hp.drop4 h60.symm hcp
 have hkb : IsBytes key := by rw [hkey]; exact isBytes_dropH hpb 4
 have hkl : key.length = 56 := by rw [hkey, List.length_drop, h60]
 have c0 : Hid (w.cell? ⟨bp, op + 0, none⟩ = some (.int .u8 0)) := by show _ = _; exact bytes_cellV (n := 60) (c := cp) (by rw [BytesAt] at hb; exact hb) 0 _ (by rw [hpub]; rfl)
 have c1 : Hid (w.cell? ⟨bp, op + 1, none⟩ = some (.int .u8 0)) := by show _ = _; exact bytes_cellV (n := 60) (c := cp) (by rw [BytesAt] at hb; exact hb) 1 _ (by rw [hpub]; rfl)
 have c2 : Hid (w.cell? ⟨bp, op + 2, none⟩ = some (.int .u8 0)) := by show _ = _; exact bytes_cellV (n := 60) (c := cp) (by rw [BytesAt] at hb; exact hb) 2 _ (by rw [hpub]; rfl)
 have c3 : Hid (w.cell? ⟨bp, op + 3, none⟩ = some (.int .u8 1)) := by show _ = _; exact bytes_cellV (n := 60) (c := cp) (by rw [BytesAt] at hb; exact hb) 3 _ (by rw [hpub]; rfl)
 rw [← hkey] at hw
 have hfo : Hid (∀ w' v, Old w' v key → Calls Tryz.prog 21 #[v] w' fun e w'' => e = .returned (.bool true) ∧ Own w' w'' []) := fun w' v h => by
  have h1 := rform_any w' v key h hkb
  rwa [show decide (0 < widthL key) = true from decide_eq_true (by omega)] at h1
 have hnot : ∀ (x : Bool) (w : World), (Op.unary .not (.bool x)).run Tryz.prog w = .ok (.bool (!x)) w := fun _ _ => rfl
 obtain ⟨bs, os, cs, e2, hcs⟩ := hs.at0 (by omega)
 subst e2
 obtain ⟨n, hn⟩ : ∃ n, n = sig.length := ⟨_, rfl⟩
 have hsO := Hh hs
 rw [← hn] at hs4 hcs hs hsO ⊢
 have h4O : Hid (Old w (.slice (some ⟨bs, os, none⟩) 4 cs) (sig.take 4)) := by show Old _ _ _; exact Old.to6 hs hn (by omega) hcs (by omega)
 have hT4 : IsBytes (sig.take 4) := isBytes_take hsb 4
 obtain ⟨T4, hT40⟩ : ∃ T, T = sig.take 4 := ⟨_, rfl⟩
 rw [← hT40] at h4O hT4
 rw [← hT40] at hS
 have hnm : Hid (∀ w', Calls Tryz.prog 42 #[.int .u64 0, .int .i64 4] w' fun e w'' => ∃ r, e = .returned r ∧ BIn (numB (0 : Int) 4) w'' r ∧ Own w' w'' []) := fun w' => refNum_any w' 0 4 (by omega) (by omega)
 have hsm : Hid (∀ w' v u, Old w' v T4 → BIn (numB (0 : Int) 4) w' u → Calls Tryz.prog 11 #[v, u] w' fun e w'' => e = .returned (.bool true) ∧ Own w' w'' []) := fun w' v u h1 h2 => by
  have h := same_any w' v u _ _ h1.1 h2.2.1 hT4 (isBytes_numB _ _)
  rwa [decide_eq_true hS] at h
 rw [← hkey]
 have hve : Hid (∀ w' v u t, Old w' v key → Old w' u msg → Old w' t (sig.drop 4) → Calls Tryz.prog 20 #[v, u, t] w' fun e w'' => e = .returned (.int .i64 (verL key msg (sig.drop 4))) ∧ Own w' w'' []) := fun w' v u t h1 h2 h3 => rver_any w' v u t key msg (sig.drop 4) h1 hkb h2 hmb hml h3 (isBytes_dropH hsb 4)
 obtain ⟨V, hV0⟩ : ∃ V, V = verL key msg (sig.drop 4) := ⟨_, rfl⟩
 rw [← hV0] at hve ⊢
 obtain ⟨Z, hZ⟩ : ∃ Z, Z = sig.drop 4 := ⟨_, rfl⟩
 have hnz := Hh hn
 have hzz : Hid ((sig.drop 4).take (n - 4) = Z) := by show _ = _; rw [hZ]; exact List.take_of_length_le (by rw [List.length_drop]; omega)
 have hzl : Hid (Z.length = n - 4) := by show _ = _; rw [hZ, List.length_drop]; omega
 rw [← hZ] at hve
 have hmO := Hh hm
 obtain ⟨pm, cm, e3⟩ := hm.shape
 subst e3
 obtain ⟨ml, hmln⟩ : ∃ l, l = msg.length := ⟨_, rfl⟩
 rw [← hmln] at hmO ⊢
 clear hp hpb hm hmb hml hs hsb hpub hpe hb h60 hkey hkb hkl hw hn hT4 hT40 hS hV0 hZ hmln
 go_enter Tryz.func31, Tryz.ntmps31
 have z1 := tt
 go_wp2_with (first
  | (refine st_valG rfl (rn_idxSlN (j := 0) (q := op + 0) rfl rfl size_u8 rfl rfl rfl (by omega) rfl) ?_)
  | (refine st_valG rfl (rn_idxSlN (j := 1) (q := op + 1) rfl rfl size_u8 rfl rfl rfl (by omega) rfl) ?_)
  | (refine st_valG rfl (rn_idxSlN (j := 2) (q := op + 2) rfl rfl size_u8 rfl rfl rfl (by omega) rfl) ?_)
  | (refine st_valG rfl (rn_idxSlN (j := 3) (q := op + 3) rfl rfl size_u8 rfl rfl rfl (by omega) rfl) ?_)
  | (refine st_valG rfl (rn_cell (i := op + 0) rfl rfl rfl rfl c0.out) ?_)
  | (refine st_valG rfl (rn_cell (i := op + 1) rfl rfl rfl rfl c1.out) ?_)
  | (refine st_valG rfl (rn_cell (i := op + 2) rfl rfl rfl rfl c2.out) ?_)
  | (refine st_valG rfl (rn_cell (i := op + 3) rfl rfl rfl rfl c3.out) ?_)
  | (refine st_valG rfl (rn_part (l := 4) (h := 60) (m := 56) (d := cp - 4) rfl rfl size_u8 rfl (by exact .yes rfl) (by exact .no _) (by omega) (by omega) hcp rfl rfl) ?_)
  | (clear z1; go_at_call 21; refine (hfo.out _ _ (hK.out.mv H (by simp))).mono ?_; rintro e w4 ⟨rfl, h3⟩; replace H := H.call0 h3; clear h3; have z2 := tt))
 have H4 := Hh H
 clear H
 have hd1 : decide ((n : Int) < 4) = false := decide_eq_false (by omega)
 have hd2 : decide (n < 4) = false := decide_eq_false (by omega)
 have k3 : Hid (∀ w', Own w4 w' [] → w'.cell? ⟨bp, op + 3, none⟩ = some (.int .u8 1)) := fun w' h => (H4.out.trans h).old c3.out (by simp)
 have h4w : Hid (∀ w', Own w4 w' [] → Old w' (.slice (some ⟨bs, os, none⟩) 4 cs) T4) := fun w' h => h4O.out.mv (H4.out.trans h) (by simp)
 refine region_grow 15 (by kernel_rfl) (by kernel_rfl) (by kernel_rfl) [.val (.slice (some ⟨bs, os, none⟩) n cs), .val (.int .i64 n), .val (.bool false), .val (.bool false), .val (.slice (some ⟨bs, os, none⟩) n cs), .val (.slice (some ⟨bs, os, none⟩) 4 cs), .val (.slice (some ⟨bp, op, none⟩) 60 cp), .val (.pointer (some ⟨bp, op + 3, none⟩)), .val (.int .u8 1), .val (.int .u64 1), .val (.int .u64 0), .rel (BIn (numB (0 : Int) 4)), .val (.bool true), .val (.bool false), .val (.bool false)] rfl ?_
 have z3 := tt
 try go_frame
 repeat (first
  | (clear z3; refine sp_run (v := .slice (some ⟨bs, os, none⟩) 4 cs) rfl (fun w' hw' _ => rn_to6 (h := 4) rfl rfl size_u8 rfl (by exact .yes rfl) (by omega) hcs) ?_; try go_frame; have z4 := tt)
  | (clear z4; refine sp_run (v := .pointer (some ⟨bp, op + 3, none⟩)) rfl (fun w' hw' _ => rn_idxSlN (j := 3) (q := op + 3) rfl rfl size_u8 rfl rfl rfl (by omega) rfl) ?_; try go_frame; have z5 := tt)
  | (clear z5; refine sp_run (v := .int .u8 1) rfl (fun w' hw' _ => rn_cell (i := op + 3) rfl rfl rfl rfl (k3.out w' hw')) ?_; try go_frame; have z6 := tt)
  | (clear z6; refine sp_callR (args := #[.int .u64 0, .int .i64 4]) (BIn.mono _) rfl rfl (by simp [Act.eval]) Tryz.func42 (by kernel_rfl) (by kernel_rfl) (fun w' hw' _ => hnm.out w') ?_; intro v58; try go_frame; have z7 := tt)
  | (clear z7; refine sp_callN (v := .bool true) (args := #[.slice (some ⟨bs, os, none⟩) 4 cs, v58]) rfl rfl (by simp [Act.eval]) Tryz.func11 (by kernel_rfl) (by kernel_rfl) (fun w' hw' hF => hsm.out w' _ _ (h4w.out w' hw') (hF.2 _ rfl (mE (by kernel_rfl)))) ?_; try go_frame; have z8 := tt)
  | (refine sp_skip rfl ?_; try go_frame)
  | (refine sp_val (fun w' hw' hF => ?_) ⟨_, rfl, nB rfl⟩ ?_
     · go_big_quiet_step (fail)
       exact rfl
     try go_frame))
 refine sp_nil ?_
 intro w5 hw' hF
 have H := H4.out.trans hw'
 clear hw' hF k3 h4w H4 hnm hsm
 simp only [List.drop_succ_cons, List.drop_zero]
 have z1 := tt
 go_wp2_with (first
  | (refine st_val rfl (rn_idxSlN (j := 0) (q := op + 0) rfl rfl size_u8 rfl rfl rfl (by omega) rfl) ?_)
  | (refine st_val rfl (rn_idxSlN (j := 1) (q := op + 1) rfl rfl size_u8 rfl rfl rfl (by omega) rfl) ?_)
  | (refine st_val rfl (rn_idxSlN (j := 2) (q := op + 2) rfl rfl size_u8 rfl rfl rfl (by omega) rfl) ?_)
  | (refine st_val rfl (rn_idxSlN (j := 3) (q := op + 3) rfl rfl size_u8 rfl rfl rfl (by omega) rfl) ?_)
  | (refine st_val rfl (rn_cell (i := op + 0) rfl rfl rfl rfl (H.old c0.out (by simp))) ?_)
  | (refine st_val rfl (rn_cell (i := op + 1) rfl rfl rfl rfl (H.old c1.out (by simp))) ?_)
  | (refine st_val rfl (rn_cell (i := op + 2) rfl rfl rfl rfl (H.old c2.out (by simp))) ?_)
  | (refine st_val rfl (rn_cell (i := op + 3) rfl rfl rfl rfl (H.old c3.out (by simp))) ?_))
 have H5 := Hh H
 clear H
 have sW : Hid (∀ w', Own w5 w' [] → Old w' (.slice (some ⟨bs, os, none⟩) n cs) sig) := fun w' h => hsO.out.mv (H5.out.trans h) (by simp)
 have mW : Hid (∀ w', Own w5 w' [] → Old w' (.slice pm ml cm) msg) := fun w' h => hmO.out.mv (H5.out.trans h) (by simp)
 have kW : Hid (∀ w', Own w5 w' [] → Old w' (.slice (some ⟨bp, op + 4, none⟩) 56 (cp - 4)) key) := fun w' h => hK.out.mv (H5.out.trans h) (by simp)
 refine region_grow 6 (by kernel_rfl) (by kernel_rfl) (by kernel_rfl) [.val (.slice (some ⟨bp, op, none⟩) 60 cp), .val (.slice (some ⟨bp, op + 4, none⟩) 56 (cp - 4)), .val (.slice pm ml cm), .val (.slice (some ⟨bs, os, none⟩) n cs), .rel (SlB (n - 4) Z), .val (.int .i64 V)] rfl ?_
 have z3 := tt
 try go_frame
 repeat (first
  | (clear z3; refine sp_run (v := .slice (some ⟨bp, op + 4, none⟩) 56 (cp - 4)) rfl (fun w' hw' _ => rn_part (l := 4) (h := 60) (m := 56) (d := cp - 4) rfl rfl size_u8 rfl (by exact .yes rfl) (by exact .no _) (by omega) (by omega) hcp rfl rfl) ?_; try go_frame; have z4 := tt)
  | (clear z4; refine sp_rel (SlB.mono (n - 4) Z) rfl (fun w' hw' hF => yields_sub (l := 4) (h' := n) rfl rfl size_u8 rfl (sW.out w' hw') hnz.out (by exact .yes rfl) (by exact .no _) (by omega) (Nat.le_refl _) hzz.out hzl.out) ?_; intro v70; try go_frame; have z5 := tt)
  | (clear z5; refine sp_callN (v := .int .i64 V) (args := #[.slice (some ⟨bp, op + 4, none⟩) 56 (cp - 4), .slice pm ml cm, v70]) rfl rfl (by simp [Act.eval]) Tryz.func20 (by kernel_rfl) (by kernel_rfl) (fun w' hw' hF => by obtain ⟨p, c, rfl, h⟩ := hF.2 _ rfl (mE (by kernel_rfl)); exact hve.out w' _ _ _ (kW.out w' hw') (mW.out w' hw') h) ?_; try go_frame; have z6 := tt)
  | (refine sp_skip rfl ?_; try go_frame)
  | (refine sp_val (fun w' hw' hF => ?_) ⟨_, rfl, nB rfl⟩ ?_
     · go_big_quiet_step (fail)
       exact rfl
     try go_frame))
 refine sp_nil ?_
 intro w6 hw' hF
 have HE := Hh (H5.out.trans hw')
 clear hw' hF
 simp only [List.drop_succ_cons, List.drop_zero]
 go_wp2_with fail
 go_ret
 exact ⟨rfl, HE.out⟩
end Go.Proofs.YtfihlmnbonnekaaGreat
