/- ots: the document's candidate, whole. -/
import Derived.Test.YtfihlmnbonnekaaGreatRefU
namespace Go.Proofs.YtfihlmnbonnekaaGreat
open Go.RowKit
set_option maxHeartbeats 32000000
set_option maxRecDepth 100000 in
theorem refCand_main (w : World) (id : List Int) (h16 : id.length = 16) (hid : IsBytes id) (q k : Nat) (hq : q < 32) (hk : k = 1 ∨ k = 2 ∨ k = 4 ∨ k = 8) (mv sv : Value) (msg sig : List Int) (hm : Old w mv msg) (hmb : IsBytes msg) (hml : msg.length ≤ 90000) (hs : Old w sv sig) (hsb : IsBytes sig) (hl : sig.length = 36 + 32 * chN k) (hne : sig.take 4 = numB (cdN k) 4) :
 Calls Tryz.prog 56 #[.agg (u8s id).toArray, .int .i64 q, .int .i64 k, mv, sv] w fun e w' => e = .returned (.tuple #[.agg (u8s (candOf id q k msg sig)).toArray, .int .i64 (candE k sig)]) ∧ Own w w' [] := by
 have H := Own.refl w
 have hok : candOf id q k msg sig = candK id q k msg sig ∧ candE k sig = 0 := by
  have e : candOk k sig = true := by unfold candOk; rw [decide_eq_true hl, decide_eq_true hne]; rfl
  unfold candOf candE
  rw [e, if_pos rfl, if_pos rfl]
  exact ⟨rfl, rfl⟩
 rw [hok.1, hok.2]
 clear hok
 obtain ⟨t, ht255, ht1, ht2, hsh⟩ := two_pow hk
 have hch := Hh (fun w' => refChains_k w' k hk)
 have hcd := Hh (fun w' => refCode_any w' k hk)
 obtain ⟨hC0, hC1⟩ := chN_le k
 have hk8 : k ≤ 8 := by omega
 obtain ⟨b, off, cs, rfl, hsc⟩ := hs.at0 (by omega)
 have hO4 : Hid (∀ w' L, Own w w' L → (∀ k ∈ L.map (·.1), w.heap.size ≤ k) → Old w' (.slice (some ⟨b, off + 0, none⟩) 4 (cs - 0)) (sig.take 4)) := fun w' L h hn => by
  have h1 := (hs.mv h hn).part (l := 0) (m := 4) (d := cs - 0) rfl (by omega) (by omega) (by omega)
  rw [List.drop_zero] at h1
  exact h1
 have ht4 := Hh (isBytes_take hsb 4)
 obtain ⟨cd, hcd1⟩ : ∃ c, c = cdN k := ⟨_, rfl⟩
 rw [← hcd1] at hcd hne
 have hnum : Hid (∀ w', Calls Tryz.prog 42 #[.int .u64 cd, .int .i64 4] w' fun e w'' => ∃ r, e = .returned r ∧ BIn (numB cd 4) w'' r ∧ Own w' w'' []) := fun w' => refNum_any w' cd 4 (by omega) (by omega)
 have hnb := Hh (isBytes_numB cd 4)
 obtain ⟨A, hA⟩ : ∃ a, a = numB cd 4 := ⟨_, rfl⟩
 obtain ⟨T, hT⟩ : ∃ a, a = sig.take 4 := ⟨_, rfl⟩
 rw [← hA] at hnum hnb hne
 rw [← hT] at hO4 ht4 hne
 have hsame : Hid (∀ w' v1 v2, Old w' v1 T → BIn A w' v2 → Calls Tryz.prog 11 #[v1, v2] w' fun e w'' => e = .returned (.bool true) ∧ Own w' w'' []) := fun w' v1 v2 h1 h2 => by
  have h := same_any w' v1 v2 T A h1.1 h2.2.1 ht4.out hnb.out
  rw [decide_eq_true hne] at h
  exact h
 have hO36 : Hid (∀ w' L, Own w w' L → (∀ k ∈ L.map (·.1), w.heap.size ≤ k) → Old w' (.slice (some ⟨b, off + 4, none⟩) 32 (cs - 4)) ((sig.drop 4).take 32)) := fun w' L h hn => (hs.mv h hn).part rfl (by omega) (by omega) (by omega)
 have hOp : Hid (∀ i, i < chN k → ∀ w' L, Own w w' L → (∀ k ∈ L.map (·.1), w.heap.size ≤ k) → BytesAt w' (.slice (some ⟨b, off + (36 + 32 * i), none⟩) 32 (cs - (36 + 32 * i))) (pieceOf sig i)) := fun i hi w' L h hn => by
  rw [pieceOf_eq (by omega)]
  exact ((hs.mv h hn).part rfl (by omega) (by omega) (by omega)).1
 obtain ⟨Cr, hCr⟩ : ∃ c, c = (sig.drop 4).take 32 := ⟨_, rfl⟩
 have hCrl : Hid (Cr.length = 32) := by show _ = _; rw [hCr, List.length_take, List.length_drop]; omega
 have hCrb : Hid (IsBytes Cr) := by rw [hCr]; exact isBytes_take (isBytes_drop hsb _) _
 obtain ⟨M, hM⟩ : ∃ M, M = msgOf id q Cr msg := ⟨_, rfl⟩
 have hMl : Hid (M.length = 32) := by show _ = _; rw [hM]; rfl
 have hMb : Hid (IsBytes M) := by rw [hM]; exact isBytes_sha _
 have hmsg : Hid (∀ w' cv mv, Old w' cv Cr → Old w' mv msg → Calls Tryz.prog 78 #[.agg (u8s id).toArray, .int .i64 q, cv, mv] w' fun e w'' => e = .returned (.agg (u8s M).toArray) ∧ Own w' w'' []) := fun w' cv mv h1 h2 => by rw [hM]; exact message_any w' id h16 hid q (by omega) cv mv Cr msg h1 hCrb.out (by rw [hCrl.out]; omega) h2 hmb (by omega)
 have hdig : Hid (∀ w', Calls Tryz.prog 77 #[.int .i64 k, .agg (u8s M).toArray] w' fun e w'' => ∃ v, e = .returned v ∧ IIn .i64 (digits M k) w'' v ∧ Own w' w'' []) := fun w' => refDigits_any w' k hk M hMl.out hMb.out
 have hdl := Hh (length_digits M k)
 have hdn : Hid (∀ n, n < chN k → (ints .i64 (digits M k))[n]? = some (.int .i64 (dgN M k n : Nat)) ∧ dgN M k n < 2 ^ k) := fun n hn => dgN_eq hn
 obtain ⟨X, hX⟩ : ∃ X, X = candX id q k M sig := ⟨_, rfl⟩
 have hXl : Hid (∀ i, (X i).length = 32) := fun i => by rw [hX]; exact length_stepsC (length_pieceOf _ _) _
 have hXb : Hid (∀ i, IsBytes (X i)) := fun i => by rw [hX]; exact isBytes_stepsC (isBytes_pieceOf hsb _) _
 have hal : Hid (∀ w' n, n < chN k → Calls Tryz.prog 64 #[.agg (u8s id).toArray, .int .i64 q, .int .i64 (n : Nat), .int .i64 (dgN M k n : Nat), .int .i64 t, .agg (u8s (pieceOf sig n)).toArray] w' fun e w'' => e = .returned (.agg (u8s (X n)).toArray) ∧ Own w' w'' []) := fun w' n hn => by
  have h2 : dgN M k n < 2 ^ k := (hdn.out n hn).2
  have h := refAlong_any w' id (pieceOf sig n) h16 (length_pieceOf _ _) hid (isBytes_pieceOf hsb _) q n (dgN M k n) t (by omega) (by omega) (by omega) (by omega)
  rw [show stepsC (pre22 id q n) (dgN M k n) (pieceOf sig n) (t - dgN M k n) = X n by rw [hX, ht2]; rfl] at h
  exact h
 have hPl : Hid (∀ n, (pieceOf sig n).length = 32) := fun n => length_pieceOf sig n
 have hends : Hid (∀ w' lv lb, Old w' lv lb → IsBytes lb → lb.length ≤ 100000 → Calls Tryz.prog 66 #[.agg (u8s id).toArray, .int .i64 q, lv] w' fun e w'' => e = .returned (.agg (u8s (endsOf id q lb)).toArray) ∧ Own w' w'' []) := fun w' lv lb h1 h2 h3 => ends_any w' id h16 hid q (by omega) lv lb h1 h2 h3
 have hres : Hid (candK id q k msg sig = endsOf id q (flatX X (chN k))) := by show _ = _; rw [hX, hM, hCr]; rfl
 obtain ⟨R, hR⟩ : ∃ R, R = candK id q k msg sig := ⟨_, rfl⟩
 rw [← hR] at hres ⊢
 have hRl : Hid (R.length = 32) := by show _ = _; rw [hR]; rfl
 obtain ⟨ds, hds⟩ : ∃ d, d = digits M k := ⟨_, rfl⟩
 obtain ⟨D, hD⟩ : ∃ d, d = dgN M k := ⟨_, rfl⟩
 obtain ⟨Pc, hPc⟩ : ∃ d, d = pieceOf sig := ⟨_, rfl⟩
 obtain ⟨C, hC⟩ : ∃ C, C = chN k := ⟨_, rfl⟩
 rw [← hCr] at hO36
 rw [← hds] at hdig hdl hdn
 rw [← hC] at hch hC0 hC1 hl hdl hdn hal hOp hres
 rw [← hD] at hdn
 simp only [← hD, ← hPc] at hal
 simp only [← hPc] at hPl hOp
 have hsz := Hh (size_idL h16)
 have hO : Hid (Old w mv msg) := hm
 obtain ⟨pm, cm, rfl⟩ := hm.shape
 obtain ⟨ln, hln⟩ : ∃ n, n = msg.length := ⟨_, rfl⟩
 rw [← hln] at hO ⊢
 obtain ⟨sn, hsn⟩ : ∃ n, n = sig.length := ⟨_, rfl⟩
 rw [← hsn] at hl hsc ⊢
 clear hs hsn hk hsb hT hA hcd1 hne hX hC hR hid h16 hM hds hD hPc hCr hm hmb hml hln ht1 ht2
 have hne1 : ((sn : Int) == 36 + 32 * (C : Int)) = true := by rw [beq_iff_eq]; omega
 have hne3 : ((sn : Int) != 36 + 32 * (C : Int)) = false := by unfold bne; rw [hne1]; rfl
 have hsl := Hh hl
 have hs4 : 4 ≤ sn := by omega
 have hs36 : 36 ≤ sn := by omega
 clear hl
 go_enter Tryz.func56, Tryz.ntmps56
 have z1 := tt
 go_wp2_with (first
  | (clear z1; refine st_new rfl (rn_box (cs := u8s id) H rfl rfl rfl) ?_; clear H; intro b5 w1 hb5 H; have z2 := tt)
  | (clear z2; refine st_new rfl (rn_alloc H rfl info_hash) ?_; clear H; intro b10 w3 hb10 H; have z3 := tt)
  | (clear z3; go_at_call 54; refine (hch.out _).mono ?_; rintro e w4 ⟨rfl, h3⟩; replace H := H.call0 h3; clear h3))
 have H4 := Hh H
 have hc16 : Hid (∀ w', Own w4 w' [] → ∀ j v, (u8s id)[j]? = some v → w'.cell? ⟨b5, 0 + j, none⟩ = some v) := fun w' h j v hj => by rw [(H.call0 h).cell (.tail _ (.head _)), Nat.zero_add]; exact hj
 have hold : Hid (∀ w', Own w4 w' [] → ∃ L, Own w w' L ∧ ∀ k ∈ L.map (·.1), w.heap.size ≤ k) := fun w' h => ⟨_, H4.out.call0 h, by simp; omega⟩
 clear H
 refine region_grow 15 (by kernel_rfl) (by kernel_rfl) (by kernel_rfl) [.val (.slice (some ⟨b, off, none⟩) sn cs), .val (.int .i64 sn), .val (.int .i64 C), .val (.int .i64 (32 * (C : Int))), .val (.int .i64 (36 + 32 * (C : Int))), .val (.bool false), .val (.bool false), .val (.slice (some ⟨b, off, none⟩) sn cs), .val (.slice (some ⟨b, off + 0, none⟩) 4 (cs - 0)), .val (.int .i64 k), .val (.int .u64 cd), .rel (BIn A), .val (.bool true), .val (.bool false), .val (.bool false)] rfl ?_
 have z3 := tt
 try go_frame
 repeat (first
  | (clear z3; refine sp_run (v := .slice (some ⟨b, off + 0, none⟩) 4 (cs - 0)) rfl (fun w' hw' _ => rn_part rfl rfl size_u8 rfl (by exact .no _) (by exact .yes rfl) (by omega) hs4 hsc rfl rfl) ?_; try go_frame; have z4 := tt)
  | (clear z4; refine sp_callN (v := .int .u64 cd) (args := #[.int .i64 k]) rfl rfl (by simp [Act.eval]) Tryz.func43 (by kernel_rfl) (by kernel_rfl) (fun w' _ _ => hcd.out w') ?_; try go_frame; have z5 := tt)
  | (clear z5; refine sp_callR (args := #[.int .u64 cd, .int .i64 4]) (BIn.mono _) rfl rfl (by simp [Act.eval]) Tryz.func42 (by kernel_rfl) (by kernel_rfl) (fun w' hw' _ => hnum.out w') ?_; intro v30; try go_frame; have z6 := tt)
  | (clear z6; refine sp_callN (v := .bool true) (args := #[.slice (some ⟨b, off + 0, none⟩) 4 (cs - 0), v30]) rfl rfl (by simp [Act.eval]) Tryz.func11 (by kernel_rfl) (by kernel_rfl) (fun w' hw' hF => by obtain ⟨L, h1, h2⟩ := hold.out w' hw'; exact hsame.out w' _ _ (hO4.out _ _ h1 h2) (hF.2 _ rfl (mE (by kernel_rfl)))) ?_; try go_frame)
  | (refine sp_val (fun w' hw' hF => ?_) ⟨_, rfl, nB rfl⟩ ?_
     · go_big_quiet_step (fail)
       first
          | exact rfl
          | (simp only [hne3]; exact rfl)
     try go_frame))
 refine sp_nil ?_
 intro w5 hw' hF
 have H5 := Hh hw'
 clear hw' hF hsame hnum hcd hO4 hnb ht4 hne1 hne3
 simp only [List.drop_succ_cons, List.drop_zero]
 go_wp2_with fail
 refine region_grow 8 (by kernel_rfl) (by kernel_rfl) (by kernel_rfl) [.val (.int .i64 k), .val (.agg (u8s id).toArray), .val (.int .i64 q), .val (.slice (some ⟨b, off, none⟩) sn cs), .val (.slice (some ⟨b, off + 4, none⟩) 32 (cs - 4)), .val (.slice pm ln cm), .val (.agg (u8s M).toArray), .rel (IIn .i64 ds)] rfl ?_
 have z3 := tt
 try go_frame
 repeat (first
  | (clear z3; refine sp_run (v := .agg (u8s id).toArray) rfl (fun w' hw' _ => rn_cells rfl rfl rfl rfl hsz.out (hc16.out w' (H5.out.trans hw'))) ?_; try go_frame; have z4 := tt)
  | (clear z4; refine sp_run (v := .slice (some ⟨b, off + 4, none⟩) 32 (cs - 4)) rfl (fun w' hw' _ => rn_part rfl rfl size_u8 rfl (by exact .yes rfl) (by exact .yes rfl) (by omega) hs36 hsc rfl rfl) ?_; try go_frame; have z5 := tt)
  | (clear z5; refine sp_callN (v := .agg (u8s M).toArray) (args := #[.agg (u8s id).toArray, .int .i64 q, .slice (some ⟨b, off + 4, none⟩) 32 (cs - 4), .slice pm ln cm]) rfl rfl (by simp [Act.eval]) Tryz.func78 (by kernel_rfl) (by kernel_rfl) (fun w' hw' _ => by obtain ⟨L, h1, h2⟩ := hold.out w' (H5.out.trans hw'); exact hmsg.out w' _ _ (hO36.out _ _ h1 h2) (hO.out.mv h1 h2)) ?_; try go_frame; have z6 := tt)
  | (clear z6; refine sp_callR (args := #[.int .i64 k, .agg (u8s M).toArray]) (IIn.mono _ _) rfl rfl (by simp [Act.eval]) Tryz.func77 (by kernel_rfl) (by kernel_rfl) (fun w' _ _ => hdig.out w') ?_; intro v42; try go_frame)
  | (refine sp_val (fun w' hw' hF => ?_) ⟨_, rfl, nB rfl⟩ ?_
     · go_big_quiet_step (fail)
       exact rfl
     try go_frame))
 refine sp_nil ?_
 intro w6 hw' hF
 have h24 := hF.2 _ rfl trivial
 have h24b := h24.1
 obtain ⟨p24, c24, e24⟩ := h24b
 subst e24
 obtain ⟨gd, od, e24, _, hdc⟩ := h24.cellAt (by rw [hdl.out]; omega)
 subst e24
 have hdc' : Hid (∀ w', Own w6 w' [] → ∀ n, n < C → w'.cell? ⟨gd, od + n, none⟩ = some (.int .i64 (D n : Nat))) := fun w' h n hn => h.old (hdc n _ (hdn.out n hn).1) (by simp)
 have H6 : Hid (Own w4 w6 []) := H5.out.trans hw'
 rw [hdl.out]
 clear hdc h24 hw' hF hmsg hdig H5
 simp only [List.drop_succ_cons, List.drop_zero]
 have B := Buf.nil (e := 5) (k := .u8) (Own.refl w6)
 go_wp2_with fail
 go_loopw [14, 15] (fun v14 v15 wr => ∃ (i : Nat) (p : Option Addr) (c : Nat), i ≤ C ∧ v15 = .int .i64 ((i : Nat) : Int) ∧ v14 = .slice p (32 * i) c ∧ Buf 5 .u8 w6 wr [] v14 (flatX X i)) (fun _ v15 _ => ((C : Nat) - intOf v15).toNat)
 case atStart => exact ⟨0, none, 0, by omega, rfl, rfl, B⟩
 case round =>
  clear B
  obtain ⟨i, p, c, hi, rfl, rfl, B⟩ := hrel
  by_cases hin : i < C
  · have ha1 : Hid (∀ w', Calls Tryz.prog 64 #[.agg (u8s id).toArray, .int .i64 q, .int .i64 i, .int .i64 (D i : Nat), .int .i64 t, .agg (u8s (Pc i)).toArray] w' fun e w'' => e = .returned (.agg (u8s (X i)).toArray) ∧ Own w' w'' []) := fun w' => hal.out w' i hin
    have hd1 : Hid (∀ w', Own w6 w' [] → w'.cell? ⟨gd, od + i, none⟩ = some (.int .i64 (D i : Nat))) := fun w' h => hdc'.out w' h i hin
    have hp1 : Hid (∀ w', Own w4 w' [] → BytesAt w' (.slice (some ⟨b, off + (36 + 32 * i), none⟩) 32 (cs - (36 + 32 * i))) (Pc i)) := fun w' h => by obtain ⟨L, h1, h2⟩ := hold.out w' h; exact hOp.out i hin w' _ h1 h2
    have hxl := Hh (hXl.out i)
    have hpl := Hh (hPl.out i)
    have hst := Hh (flatX_succ X i)
    have hfl := Hh (length_flatX hXl.out i)
    obtain ⟨Xi, hXi⟩ : ∃ s, s = X i := ⟨_, rfl⟩
    obtain ⟨Di, hDi⟩ : ∃ s, s = D i := ⟨_, rfl⟩
    obtain ⟨Pi, hPi⟩ : ∃ s, s = Pc i := ⟨_, rfl⟩
    rw [← hXi, ← hDi, ← hPi] at ha1
    rw [← hDi] at hd1
    rw [← hPi] at hp1 hpl
    rw [← hXi] at hxl hst
    clear hXi hDi hPi
    have BW := Hh B
    have hw4 : Hid (∀ w', Own wr w' [] → Own w4 w' []) := fun w' h => H6.out.trans (BW.out.own0.trans h)
    clear B
    have H := Own.refl wr
    go_wp2_with (refine st_new rfl (rn_alloc H rfl info_hash) ?_; clear H; intro b16 w8 hb16 H)
    have H8 := Hh H
    clear H
    refine region_grow 9 (by kernel_rfl) (by kernel_rfl) (by kernel_rfl) [.val (.slice (some ⟨b16, 0, none⟩) 32 32), .val (.slice (some ⟨b, off, none⟩) sn cs), .val (.int .i64 i), .val (.int .i64 (32 * (i : Int))), .val (.int .i64 (36 + 32 * (i : Int))), .val (.int .i64 i), .val (.int .i64 (32 * (i : Int))), .val (.int .i64 (68 + 32 * (i : Int))), .val (.slice (some ⟨b, off + (36 + 32 * i), none⟩) 32 (cs - (36 + 32 * i)))] rfl ?_
    have z3 := tt
    try go_frame
    repeat (first
     | (clear z3; refine sp_run (v := .slice (some ⟨b16, 0, none⟩) 32 32) rfl (fun w' hw' _ => rn_sliceAll rfl rfl size_u8 rfl (by omega)) ?_; try go_frame; have z4 := tt)
     | (clear z4; refine sp_run (v := .slice (some ⟨b, off + (36 + 32 * i), none⟩) 32 (cs - (36 + 32 * i))) rfl (fun w' hw' _ => rn_part (h := 68 + 32 * i) rfl rfl size_u8 rfl (by exact .yes (by omega)) (by exact .yes (by omega)) (by omega) (by have := hsl.out; omega) hsc (by omega) rfl) ?_; try go_frame; have z5 := tt)
     | (refine sp_val (fun w' hw' hF => ?_) ⟨_, rfl, nB rfl⟩ ?_
        · go_big_quiet_step (fail)
          exact rfl
        try go_frame))
    refine sp_nil ?_
    intro w9 hw' hF
    have hb16' := Hh hb16
    have hp2 := Hh (hp1.out w9 (hw4.out w9 ((H8.out.call0 hw').end0 (by simp; omega))))
    have H := H8.out.call0 hw'
    clear hw' hF H8 hp1
    simp only [List.drop_succ_cons, List.drop_zero]
    have hx3 : Hid ((u8s Pi).take 32 = u8s Pi) := List.take_of_length_le (by rw [length_ints, hpl.out]; omega)
    have hsp : Hid (splice (u8s (List.replicate 32 0)) 0 (u8s Pi) = u8s Pi) := by show _ = _; unfold splice; rw [List.take_zero, List.nil_append, List.drop_of_length_le (by rw [length_ints, length_ints, hpl.out]; simp), List.append_nil]
    go_wp2_with (refine st_both rfl (rn_copy (sv := .slice (some ⟨b, off + (36 + 32 * i), none⟩) 32 (cs - (36 + 32 * i))) (xs := u8s Pi) (k := 32) H rfl rfl size_u8 rfl rfl (by have h := hp2.out; rw [BytesAt, hpl.out] at h; exact h) (by rw [length_ints, hpl.out]) .head (by simp) (oneCell_ints _ _) rfl) ?_; clear H; intro w10 H; rw [hx3.out, hsp.out] at H)
    have H10 := Hh H
    have hw10 : Hid (∀ w', Own w10 w' [] → Own wr w' []) := fun w' h => (H10.out.call0 h).end0 (by simp; omega)
    clear H hp2
    refine region_grow 13 (by kernel_rfl) (by kernel_rfl) (by kernel_rfl) [.val (.agg (u8s id).toArray), .val (.int .i64 q), .val (.int .i64 i), .val (.slice (some ⟨gd, od, none⟩) C c24), .val (.int .i64 i), .val (.pointer (some ⟨gd, od + i, none⟩)), .val (.int .i64 Di), .val (.int .i64 k), .val (.int .u64 k), .val (.int .i64 ((t : Int) + 1)), .val (.int .i64 t), .val (.agg (u8s Pi).toArray), .val (.agg (u8s Xi).toArray)] rfl ?_
    have z3 := tt
    try go_frame
    repeat (first
     | (clear z3; refine sp_run (v := .agg (u8s id).toArray) rfl (fun w' hw' _ => rn_cells rfl rfl rfl rfl hsz.out (hc16.out w' (hw4.out w' (hw10.out w' hw')))) ?_; try go_frame; have z4 := tt)
     | (clear z4; refine sp_run (v := .int .i64 Di) rfl (fun w' hw' _ => rn_cell rfl rfl rfl rfl (hd1.out w' (BW.out.own0.trans (hw10.out w' hw')))) ?_; try go_frame; have z5 := tt)
     | (clear z5; refine sp_run (v := .agg (u8s Pi).toArray) rfl (fun w' hw' _ => rn_cells rfl rfl rfl rfl (size_hashL hpl.out) (fun j v hj => by rw [(H10.out.call0 hw').cell (.head _), Nat.zero_add]; exact hj)) ?_; try go_frame; have z6 := tt)
     | (clear z6; refine sp_callN (v := .agg (u8s Xi).toArray) (args := #[.agg (u8s id).toArray, .int .i64 q, .int .i64 i, .int .i64 Di, .int .i64 t, .agg (u8s Pi).toArray]) rfl rfl (by simp [Act.eval]) Tryz.func64 (by kernel_rfl) (by kernel_rfl) (fun w' _ _ => ha1.out w') ?_; try go_frame)
     | (refine sp_val (fun w' hw' hF => ?_) ⟨_, rfl, nB rfl⟩ ?_
        · go_big_quiet_step (fail)
          first
             | exact rfl
             | (simp only [hsh]; exact rfl)
             | (simp only [Int.add_sub_cancel]; exact rfl)
        try go_frame))
    refine sp_nil ?_
    intro w11 hw' hF
    have H := H10.out.call0 hw'
    clear hw' hF H10 ha1 hd1
    simp only [List.drop_succ_cons, List.drop_zero]
    have hgn := Hh (Nat.le_trans BW.out.own0.size hb16)
    have hsum : Hid ((flatX X i).length + Xi.length = 32 * (i + 1)) := by show _ = _; rw [hfl.out, hxl.out]; omega
    have z6 := tt
    go_wp2_with (first
     | (clear z6; refine st_skip rfl (rn_storeAll (vs := u8s Xi) H rfl rfl rfl (size_hashL hxl.out) .head (by rw [length_ints, length_ints, hxl.out, hpl.out]) (oneCell_ints _ _)) ?_; clear H; intro w12 H; have B := BW.out.callNew H hb16; clear H BW)
     | (refine st_val rfl (rn_sliceAll rfl rfl size_u8 rfl (by omega)) ?_)
     | (refine st_app (ys := Xi) rfl B elem_u8 rfl rfl rfl rfl (by have h := Own.litM (T := 24) B.own0 (.head _) hxl.out.symm; exact h) (by rw [hsum.out]; omega) (by rw [hsum.out]; omega) ?_; clear B; intro p7 c7 w7 B; rw [← hst.out] at B; rw [hsum.out] at B ⊢; have B2 := B.pop hgn.out; clear B; have B := B2; clear B2))
    exact ⟨⟨i + 1, _, _, by omega, by go_num, rfl, B⟩, by simp [intOf]; omega⟩
  · obtain rfl : i = C := by omega
    have hOl : Hid (∀ w', Own wr w' [] → Old w' (.slice p (32 * i) c) (flatX X i)) := fun w' h => ⟨SlAt.own0 B.bytesAt h, fun k hk => Nat.lt_of_lt_of_le (B.lt k hk) h.size⟩
    have hfl := Hh (length_flatX hXl.out i)
    have hfb := Hh (isBytes_flatX hXb.out i)
    have HR : Hid (Own w4 wr []) := H6.out.trans B.own0
    clear B
    have H := Own.refl wr
    have z7 := tt
    go_wp2_with (first
     | (clear z7; refine st_val rfl (rn_cells rfl rfl rfl rfl hsz.out (hc16.out _ (HR.out.trans H))) ?_; have z8 := tt)
     | (clear z8; go_at_call 66; refine (hends.out _ _ _ (hOl.out _ H) hfb.out (by rw [hfl.out]; omega)).mono ?_; rintro e w13 ⟨rfl, h3⟩; rw [← hres.out]; replace H := H4.out.call0 (HR.out.trans (H.trans h3)); clear h3; have z9 := tt)
     | (clear z9; refine st_skip rfl (rn_storeAll (vs := u8s R) H rfl rfl rfl (size_hashL hRl.out) .head (by rw [length_ints, length_ints, hRl.out]; rfl) (oneCell_ints _ _)) ?_; clear H; intro w14 H))
    refine fin_cell2 (cs := u8s R) rfl H rfl (.head _) rfl rfl (size_hashL hRl.out) rfl rfl ⟨rfl, ?_⟩
    exact H.end0 (by simp; omega)
theorem refCand_any (w : World) (id : List Int) (h16 : id.length = 16) (hid : IsBytes id) (q k : Nat) (hq : q < 32) (hk : k = 1 ∨ k = 2 ∨ k = 4 ∨ k = 8) (mv sv : Value) (msg sig : List Int) (hm : Old w mv msg) (hmb : IsBytes msg) (hml : msg.length ≤ 90000) (hs : Old w sv sig) (hsb : IsBytes sig) :
 Calls Tryz.prog 56 #[.agg (u8s id).toArray, .int .i64 q, .int .i64 k, mv, sv] w fun e w' => e = .returned (.tuple #[.agg (u8s (candOf id q k msg sig)).toArray, .int .i64 (candE k sig)]) ∧ Own w w' [] := by
 have hbad : candOk k sig = false → candOf id q k msg sig = List.replicate 32 0 ∧ candE k sig = 3 := fun e => by
  unfold candOf candE
  rw [e]
  exact ⟨rfl, rfl⟩
 by_cases h : sig.length = 36 + 32 * chN k
 · by_cases h4 : sig.take 4 = numB (cdN k) 4
   · exact refCand_main w id h16 hid q k hq hk mv sv msg sig hm hmb hml hs hsb h h4
   · have e := hbad (by unfold candOk; rw [decide_eq_false h4]; simp)
     rw [e.1, e.2]
     exact refCand_code w id q k hk mv sv sig hs hsb h h4
 · have e := hbad (by unfold candOk; rw [decide_eq_false h]; rfl)
   rw [e.1, e.2]
   exact refCand_len w id q k hk mv sv sig hs h
end Go.Proofs.YtfihlmnbonnekaaGreat
