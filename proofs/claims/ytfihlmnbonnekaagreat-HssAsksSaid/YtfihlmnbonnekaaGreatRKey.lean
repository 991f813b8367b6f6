/- the document's keys of one or two levels: NewKey, Public, Sign. -/
import Derived.Test.YtfihlmnbonnekaaGreatRLms
import Derived.Test.YtfihlmnbonnekaaGreatHRch
import Derived.Test.YtfihlmnbonnekaaGreatMg
namespace Go.Proofs.YtfihlmnbonnekaaGreat
open Go.RowKit
set_option maxHeartbeats 32000000
set_option linter.unusedVariables false
def RKeyAt (w : World) (kb tb : Nat) (id sd : List Int) (k : Nat) (l : Int) : Prop := RTreeAt w tb id sd k ∧ w.heap[kb]? = some (.cells #[.int .i64 l, (.pointer (some ⟨tb, 0, none⟩))] 100 (0, 0))
theorem RKeyAt.mv {w w' : World} {kb tb : Nat} {id sd : List Int} {k : Nat} {l : Int} {L : List Ent} (h : RKeyAt w kb tb id sd k l) (ho : Own w w' L) (hn : ∀ k ∈ L.map (·.1), w.heap.size ≤ k) : RKeyAt w' kb tb id sd k l := by
 refine ⟨h.1.mv ho hn, ?_⟩
 have hg : kb < w.heap.size := (Array.getElem?_eq_some_iff.1 h.2).1
 rw [ho.keep kb hg (fun hm => by have := hn kb hm; omega)]
 exact h.2
theorem RKeyAt.c0 {w : World} {kb tb : Nat} {id sd : List Int} {k : Nat} {l : Int} (h : RKeyAt w kb tb id sd k l) : w.cell? ⟨kb, 0, none⟩ = some (.int .i64 l) := (Own.one h.2).cell (.head _) 0
theorem RKeyAt.c1 {w : World} {kb tb : Nat} {id sd : List Int} {k : Nat} {l : Int} (h : RKeyAt w kb tb id sd k l) : w.cell? ⟨kb, 1, none⟩ = some (.pointer (some ⟨tb, 0, none⟩)) := (Own.one h.2).cell (.head _) 1
def RNewT (id sd : List Int) (k : Nat) : World → Value → Prop := fun w v => ∃ b, v = (.pointer (some ⟨b, 0, none⟩)) ∧ RTreeAt w b id sd k
theorem RNewT.mono (id sd : List Int) (k : Nat) : Mono (RNewT id sd k) := fun _ _ _ h ⟨b, h1, h2⟩ => ⟨b, h1, h2.mv h (by simp)⟩
set_option maxRecDepth 100000 in
theorem rkey_new (w : World) (id sd : List Int) (h16 : id.length = 16) (h32 : sd.length = 32) (hid : IsBytes id) (hsd : IsBytes sd) (k : Nat) (hk : k = 1 ∨ k = 2 ∨ k = 4 ∨ k = 8) (l : Int) :
 Calls Tryz.prog 24 #[.agg (u8s (id ++ sd)).toArray, .int .i64 k, .int .i64 l] w fun e w' => ∃ kb tb, e = .returned (.pointer (some ⟨kb, 0, none⟩)) ∧ w.heap.size ≤ kb ∧ w.heap.size ≤ tb ∧ RKeyAt w' kb tb id sd k l ∧ Own w w' [] := by
 have H := Own.refl w
 have hnw := Hh (fun w' => rtnew_any w' id sd h16 h32 hid hsd k hk)
 have hsz48 := Hh (size_secretL h16 h32)
 clear h16 h32 hid hsd hk
 go_enter Tryz.func24, Tryz.ntmps24
 have z1 := tt
 go_wp2_with (first
  | (clear z1; refine st_new rfl (rn_box (cs := u8s (id ++ sd)) H rfl rfl rfl) ?_; clear H; intro b3 w1 hb3 H; have z2 := tt)
  | (clear z2; refine st_val rfl (rn_loadAll (cs := u8s (id ++ sd)) H rfl rfl (.head _) rfl rfl hsz48.out) ?_; have z3 := tt)
  | (clear z3; go_at_call 10; refine (hnw.out _).mono ?_; rintro e w2 ⟨tb, rfl, htb, h3⟩; have htb0 := Nat.le_trans H.size htb; replace H := H.callNew h3 htb; clear h3; have z4 := tt)
  | (clear z4; refine st_new rfl (rn_box (cs := [.int .i64 l, (.pointer (some ⟨tb, 0, none⟩))]) H rfl rfl rfl) ?_; clear H; intro bk w3 hbk H; have z5 := tt))
 have K3 : Hid (RKeyAt w3 bk tb id sd k l) := ⟨H.here _ _ _ (.tail _ (.head _)), H.here _ _ _ (.head _)⟩
 have HE := Hh (H.end0 (by simp; omega))
 clear H
 go_ret
 exact ⟨bk, tb, rfl, hbk, htb0, K3.out, HE.out⟩
set_option maxRecDepth 100000 in
theorem rkey_pub (w : World) (kb tb : Nat) (id sd : List Int) (h16 : id.length = 16) (h32 : sd.length = 32) (hid : IsBytes id) (hsd : IsBytes sd) (k : Nat) (hk : k = 1 ∨ k = 2 ∨ k = 4 ∨ k = 8) (l : Int) (hl : l = 1 ∨ l = 2) (hK : RKeyAt w kb tb id sd k l) :
 Calls Tryz.prog 28 #[(.pointer (some ⟨kb, 0, none⟩))] w fun e w' => ∃ p c, e = .returned (.slice p 60 c) ∧ Old w' (.slice p 60 c) (numB l 4 ++ pubL id sd k) ∧ Own w w' [] := by
 have hl0 : 0 ≤ l ∧ l ≤ 2 := by omega
 have K := Hh hK
 have hnm : Hid (∀ w', Calls Tryz.prog 42 #[.int .u64 l, .int .i64 4] w' fun e w'' => ∃ r, e = .returned r ∧ Buf 5 .u8 w' w'' [] r (numB l 4)) := fun w' => refNumB_any w' l 4 (by omega) (by omega)
 have hpb : Hid (∀ w', RTreeAt w' tb id sd k → Calls Tryz.prog 13 #[(.pointer (some ⟨tb, 0, none⟩))] w' fun e w'' => ∃ r, e = .returned r ∧ BIn (pubL id sd k) w'' r ∧ Own w' w'' []) := fun w' h => (rtpub_any w' tb id sd h16 h32 hid k hk h).mono fun e w'' ⟨p, c, h1, h2, h3⟩ => ⟨_, h1, ⟨⟨p, c, by rw [length_pubL h16]⟩, h2.1, h2.2⟩, h3⟩
 have hnl : Hid ((numB l 4).length = 4) := length_numB l 4
 have hpl := Hh (length_pubL h16 sd k)
 have hwl : IntKind.u64.wrap l = l := by simp only [IntKind.wrap, IntKind.bits, IntKind.signed]; simp; omega
 obtain ⟨NL, hNL⟩ : ∃ x, x = numB l 4 := ⟨_, rfl⟩
 obtain ⟨PU, hPU⟩ : ∃ x, x = pubL id sd k := ⟨_, rfl⟩
 rw [← hNL] at hnm hnl ⊢
 rw [← hPU] at hpb hpl ⊢
 clear h16 h32 hid hsd hk hK hl hNL hPU
 go_enter Tryz.func28, Tryz.ntmps28
 go_wp2_with fail
 refine region_grow 11 (by kernel_rfl) (by kernel_rfl) (by kernel_rfl) [.val (.pointer (some ⟨kb, 0, none⟩)), .val (.pointer (some ⟨kb, 0, none⟩)), .val (.pointer (some ⟨kb, 0, none⟩)), .val (.int .i64 l), .val (.int .u64 l), .rel (fun w' v => Buf 5 .u8 w w' [] v NL), .val (.pointer (some ⟨kb, 0, none⟩)), .val (.pointer (some ⟨kb, 0, none⟩)), .val (.pointer (some ⟨kb, 1, none⟩)), .val (.pointer (some ⟨tb, 0, none⟩)), .rel (BIn PU)] rfl ?_
 have z100 := tt
 try go_frame
 repeat (first
  | (clear z100; refine sp_run (v := .int .i64 l) rfl (fun w' hw' _ => rn_cell rfl rfl rfl rfl (K.out.mv hw' (by simp)).c0) ?_; try go_frame; have z101 := tt)
  | (clear z101; refine sp_callR (args := #[.int .u64 l, .int .i64 4]) (Buf.mono) rfl rfl (by simp [Act.eval]) Tryz.func42 (by kernel_rfl) (by kernel_rfl) (fun w' hw' hF => (hnm.out w').mono fun e w'' ⟨r, h1, h2⟩ => ⟨r, h1, hw'.callBuf h2, h2.own0⟩) ?_; intro v8; try go_frame; have z102 := tt)
  | (clear z102; refine sp_run (v := (.pointer (some ⟨tb, 0, none⟩))) rfl (fun w' hw' _ => rn_cell rfl rfl rfl rfl (K.out.mv hw' (by simp)).c1) ?_; try go_frame; have z103 := tt)
  | (clear z103; refine sp_callR (args := #[(.pointer (some ⟨tb, 0, none⟩))]) (BIn.mono _) rfl rfl (by simp [Act.eval]) Tryz.func13 (by kernel_rfl) (by kernel_rfl) (fun w' hw' hF => hpb.out w' (K.out.mv hw' (by simp)).1) ?_; intro v13; try go_frame; have z104 := tt)
  | (refine sp_val (fun w' hw' hF => ?_) ⟨_, rfl, nB rfl⟩ ?_
     · go_big_quiet_step (fail)
       first | exact rfl | simp
     try go_frame))
 refine sp_nil ?_
 intro w1 hw' hF
 have B := hF.1.2 _ rfl trivial
 have C := Hh (hF.2 _ rfl trivial)
 obtain ⟨p8, c8, e8⟩ := B.slice
 subst e8
 have hs60 : Hid (NL.length + PU.length = 60) := by show _ = _; rw [hnl.out, hpl.out]
 clear hw' hF hnm hpb
 simp only [List.drop_succ_cons, List.drop_zero]
 rw [hnl.out] at B ⊢
 go_wp2_with (refine st_app (ys := PU) rfl B elem_u8 rfl rfl rfl rfl C.out.2.1 (by rw [hs60.out]; omega) (by rw [hs60.out]; omega) ?_; clear B; intro p2 c2 w2 B; rw [hs60.out] at B ⊢)
 have B1 := Hh B
 clear B
 go_ret
 exact ⟨p2, c2, rfl, ⟨(by have h := B1.out.bytesAt; exact h), B1.out.lt⟩, B1.out.own0⟩
set_option maxRecDepth 100000 in
theorem rkey_sign1 (w : World) (kb tb : Nat) (id sd : List Int) (h16 : id.length = 16) (h32 : sd.length = 32) (hid : IsBytes id) (hsd : IsBytes sd) (k : Nat) (hk : k = 1 ∨ k = 2 ∨ k = 4 ∨ k = 8) (hK : RKeyAt w kb tb id sd k 1) (N : Nat) (hN : N < 32) (pm : Option Addr) (n cm : Nat) (msg : List Int) (hO : Old w (.slice pm n cm) msg) (hmb : IsBytes msg) (hml : msg.length ≤ 90000) {m : Nat} (hm : m = 4 + sizeOfL k) :
 Calls Tryz.prog 29 #[(.pointer (some ⟨kb, 0, none⟩)), .int .i64 N, .slice pm n cm] w fun e w' => ∃ p c, e = .returned (.slice p m c) ∧ Old w' (.slice p m c) (numB 0 4 ++ lsigOf id sd k N msg) ∧ Own w w' [] := by
 have K := Hh hK
 have M0 := Hh hO
 have hnm : Hid (∀ w', Calls Tryz.prog 42 #[.int .u64 0, .int .i64 4] w' fun e w'' => ∃ r, e = .returned r ∧ Buf 5 .u8 w' w'' [] r (numB 0 4)) := fun w' => refNumB_any w' 0 4 (by omega) (by omega)
 have hsg : Hid (∀ w', RTreeAt w' tb id sd k → Old w' (.slice pm n cm) msg → Calls Tryz.prog 16 #[(.pointer (some ⟨tb, 0, none⟩)), .int .i64 N, .slice pm n cm] w' fun e w'' => ∃ r, e = .returned r ∧ BIn (lsigOf id sd k N msg) w'' r ∧ Own w' w'' []) := fun w' h h2 => (rtsign_any w' tb id sd h16 h32 hid hsd k hk h N hN _ msg h2 hmb hml rfl).mono fun e w'' ⟨p, c, h1, h2, h3⟩ => ⟨_, h1, ⟨⟨p, c, by rw [length_lsigOf]⟩, h2.1, h2.2⟩, h3⟩
 have hnl : Hid ((numB 0 4).length = 4) := length_numB 0 4
 have hpl : Hid ((lsigOf id sd k N msg).length = sizeOfL k) := length_lsigOf ..
 have hC := chN_le k
 have hsz : sizeOfL k = 204 + 32 * chN k := rfl
 have hm9 : m ≤ 9000 := by omega
 have hm4 : Hid (4 + sizeOfL k = m) := hm.symm
 obtain ⟨NL, hNL⟩ : ∃ x, x = numB 0 4 := ⟨_, rfl⟩
 obtain ⟨SI, hSI⟩ : ∃ x, x = lsigOf id sd k N msg := ⟨_, rfl⟩
 rw [← hNL] at hnm hnl ⊢
 rw [← hSI] at hsg hpl ⊢
 clear h16 h32 hid hsd hk hK hNL hSI hO hmb hml hm hC hsz
 go_enter Tryz.func29, Tryz.ntmps29
 go_wp2_with (refine st_val rfl (rn_cell rfl rfl rfl rfl K.out.c0) ?_)
 refine region_grow 8 (by kernel_rfl) (by kernel_rfl) (by kernel_rfl) [.rel (fun w' v => Buf 5 .u8 w w' [] v NL), .val (.pointer (some ⟨kb, 0, none⟩)), .val (.pointer (some ⟨kb, 0, none⟩)), .val (.pointer (some ⟨kb, 1, none⟩)), .val (.pointer (some ⟨tb, 0, none⟩)), .val (.int .i64 N), .val (.slice pm n cm), .rel (BIn SI)] rfl ?_
 have z100 := tt
 try go_frame
 repeat (first
  | (clear z100; refine sp_callR (args := #[.int .u64 0, .int .i64 4]) (Buf.mono) rfl rfl (by simp [Act.eval]) Tryz.func42 (by kernel_rfl) (by kernel_rfl) (fun w' hw' hF => (hnm.out w').mono fun e w'' ⟨r, h1, h2⟩ => ⟨r, h1, hw'.callBuf h2, h2.own0⟩) ?_; intro v13; try go_frame; have z101 := tt)
  | (clear z101; refine sp_run (v := (.pointer (some ⟨tb, 0, none⟩))) rfl (fun w' hw' _ => rn_cell rfl rfl rfl rfl (K.out.mv hw' (by simp)).c1) ?_; try go_frame; have z102 := tt)
  | (clear z102; refine sp_callR (args := #[(.pointer (some ⟨tb, 0, none⟩)), .int .i64 N, .slice pm n cm]) (BIn.mono _) rfl rfl (by simp [Act.eval]) Tryz.func16 (by kernel_rfl) (by kernel_rfl) (fun w' hw' hF => hsg.out w' (K.out.mv hw' (by simp)).1 (M0.out.mv hw' (by simp))) ?_; intro v20; try go_frame; have z103 := tt)
  | (refine sp_val (fun w' hw' hF => ?_) ⟨_, rfl, nB rfl⟩ ?_
     · go_big_quiet_step (fail)
       first | exact rfl | simp
     try go_frame))
 refine sp_nil ?_
 intro w1 hw' hF
 have B := hF.1.2 _ rfl trivial
 have C := Hh (hF.2 _ rfl trivial)
 obtain ⟨p8, c8, e8⟩ := B.slice
 subst e8
 have hs60 : Hid (NL.length + SI.length = m) := by show _ = _; rw [hnl.out, hpl.out, hm4.out]
 clear hw' hF hnm hsg
 simp only [List.drop_succ_cons, List.drop_zero]
 rw [hnl.out] at B ⊢
 go_wp2_with (refine st_app (ys := SI) rfl B elem_u8 rfl rfl rfl rfl C.out.2.1 (by rw [hs60.out]; omega) (by rw [hs60.out]; omega) ?_; clear B; intro p2 c2 w2 B; rw [hs60.out] at B ⊢)
 have B1 := Hh B
 clear B
 go_ret
 exact ⟨p2, c2, rfl, ⟨(by have h := B1.out.bytesAt; exact h), B1.out.lt⟩, B1.out.own0⟩
set_option maxRecDepth 100000 in
theorem rkey_sign2 (w : World) (kb tb : Nat) (id sd : List Int) (h16 : id.length = 16) (h32 : sd.length = 32) (hid : IsBytes id) (hsd : IsBytes sd) (k : Nat) (hk : k = 1 ∨ k = 2 ∨ k = 4 ∨ k = 8) (hK : RKeyAt w kb tb id sd k 2) (N q r : Nat) (hN : N = 32 * q + r) (hq : q < 32) (hr : r < 32) (pm : Option Addr) (n cm : Nat) (msg : List Int) (hO : Old w (.slice pm n cm) msg) (hmb : IsBytes msg) (hml : msg.length ≤ 90000) {m : Nat} (hm : m = 4 + sizeOfL k + 56 + sizeOfL k) :
 Calls Tryz.prog 29 #[(.pointer (some ⟨kb, 0, none⟩)), .int .i64 N, .slice pm n cm] w fun e w' => ∃ p c, e = .returned (.slice p m c) ∧ Old w' (.slice p m c) (sgL2 id sd k q r msg) ∧ Own w w' [] := by
 have K := Hh hK
 have M0 := Hh hO
 have hkc := Hh (fun w (h : RTreeAt w tb id sd k) => h.kc h16 h32)
 have hnm : Hid (∀ w', Calls Tryz.prog 42 #[.int .u64 1, .int .i64 4] w' fun e w'' => ∃ r, e = .returned r ∧ BIn (numB 1 4) w'' r ∧ Own w' w'' []) := fun w' => refNum_any w' 1 4 (by omega) (by omega)
 have hch : Hid (∀ w', Calls Tryz.prog 59 #[.agg (u8s (id ++ sd)).toArray, .int .i64 q] w' fun e w'' => e = .returned (.agg (u8s ((cidOf id sd q) ++ (csdOf id sd q))).toArray) ∧ Own w' w'' []) := fun w' => rchild_any w' id sd h16 h32 hid hsd q q (by simp only [IntKind.wrap, IntKind.bits, IntKind.signed]; simp; omega)
 have c16 := length_cidOf id sd q
 have c32 := length_csdOf id sd q
 have cbi := isBytes_cidOf id sd q
 have cbs := isBytes_csdOf id sd q
 have hnw : Hid (∀ w', Calls Tryz.prog 10 #[.agg (u8s ((cidOf id sd q) ++ (csdOf id sd q))).toArray, .int .i64 k] w' fun e w'' => ∃ r, e = .returned r ∧ RNewT (cidOf id sd q) (csdOf id sd q) k w'' r ∧ Own w' w'' []) := fun w' => (rtnew_any w' (cidOf id sd q) (csdOf id sd q) c16 c32 cbi cbs k hk).mono fun e w'' ⟨b, h1, h2, h3⟩ => ⟨_, h1, ⟨b, rfl, h3.here _ _ _ (.head _)⟩, h3.end0 (by simpa using h2)⟩
 have hpb : Hid (∀ w' lb, RTreeAt w' lb (cidOf id sd q) (csdOf id sd q) k → Calls Tryz.prog 13 #[(.pointer (some ⟨lb, 0, none⟩))] w' fun e w'' => ∃ r, e = .returned r ∧ BIn (pubL (cidOf id sd q) (csdOf id sd q) k) w'' r ∧ Own w' w'' []) := fun w' lb h => (rtpub_any w' lb (cidOf id sd q) (csdOf id sd q) c16 c32 cbi k hk h).mono fun e w'' ⟨p, c, h1, h2, h3⟩ => ⟨_, h1, ⟨⟨p, c, by rw [length_pubL c16]⟩, h2.1, h2.2⟩, h3⟩
 have hpbb := isBytes_pubL cbi (csdOf id sd q) k
 have hpbl := length_pubL c16 (csdOf id sd q) k
 have hs1 : Hid (∀ w' v, RTreeAt w' tb id sd k → BIn (pubL (cidOf id sd q) (csdOf id sd q) k) w' v → Calls Tryz.prog 16 #[(.pointer (some ⟨tb, 0, none⟩)), .int .i64 q, v] w' fun e w'' => ∃ r, e = .returned r ∧ BIn (lsigOf id sd k q (pubL (cidOf id sd q) (csdOf id sd q) k)) w'' r ∧ Own w' w'' []) := fun w' v h h2 => (rtsign_any w' tb id sd h16 h32 hid hsd k hk h q hq _ _ h2.old' hpbb (by rw [hpbl]; omega) rfl).mono fun e w'' ⟨p, c, h1, h2, h3⟩ => ⟨_, h1, ⟨⟨p, c, by rw [length_lsigOf]⟩, h2.1, h2.2⟩, h3⟩
 have hs2 : Hid (∀ w' lb, RTreeAt w' lb (cidOf id sd q) (csdOf id sd q) k → Old w' (.slice pm n cm) msg → Calls Tryz.prog 16 #[(.pointer (some ⟨lb, 0, none⟩)), .int .i64 r, .slice pm n cm] w' fun e w'' => ∃ r', e = .returned r' ∧ BIn (lsigOf (cidOf id sd q) (csdOf id sd q) k r msg) w'' r' ∧ Own w' w'' []) := fun w' lb h h2 => (rtsign_any w' lb (cidOf id sd q) (csdOf id sd q) c16 c32 cbi cbs k hk h r hr _ msg h2 hmb hml rfl).mono fun e w'' ⟨p, c, h1, h2, h3⟩ => ⟨_, h1, ⟨⟨p, c, by rw [length_lsigOf]⟩, h2.1, h2.2⟩, h3⟩
 have hdf : sgL2 id sd k q r msg = [numB 1 4, lsigOf id sd k q (pubL (cidOf id sd q) (csdOf id sd q) k), pubL (cidOf id sd q) (csdOf id sd q) k, lsigOf (cidOf id sd q) (csdOf id sd q) k r msg].flatten := by unfold sgL2; simp
 have hzl := length_sgL2 id sd k q r msg
 have hC := chN_le k
 have hsz : sizeOfL k = 204 + 32 * chN k := rfl
 have hz9 : Hid ((sgL2 id sd k q r msg).length = m) := by show _ = _; rw [hzl, hm]
 have hm9 : m ≤ 19000 := by omega
 have bb1 := Hh (isBytes_numB 1 4)
 have bb2 := Hh (isBytes_lsigOf id sd k q (pubL (cidOf id sd q) (csdOf id sd q) k))
 have bb3 := Hh hpbb
 have bb4 := Hh (isBytes_lsigOf (cidOf id sd q) (csdOf id sd q) k r msg)
 have hsz48 := Hh (size_secretL h16 h32)
 obtain ⟨CS, hCS⟩ : ∃ x, x = u8s ((cidOf id sd q) ++ (csdOf id sd q)) := ⟨_, rfl⟩
 rw [← hCS] at hch hnw
 obtain ⟨A1, hA1⟩ : ∃ x, x = numB 1 4 := ⟨_, rfl⟩
 obtain ⟨A4, hA4⟩ : ∃ x, x = lsigOf (cidOf id sd q) (csdOf id sd q) k r msg := ⟨_, rfl⟩
 obtain ⟨A2, hA2⟩ : ∃ x, x = lsigOf id sd k q (pubL (cidOf id sd q) (csdOf id sd q) k) := ⟨_, rfl⟩
 obtain ⟨A3, hA3⟩ : ∃ x, x = pubL (cidOf id sd q) (csdOf id sd q) k := ⟨_, rfl⟩
 rw [← hA2] at hs1 hdf bb2
 rw [← hA4] at hs2 hdf bb4
 rw [← hA1] at hnm hdf bb1
 rw [← hA3] at hpb hs1 hdf bb3
 obtain ⟨Z, hZ⟩ : ∃ x, x = sgL2 id sd k q r msg := ⟨_, rfl⟩
 rw [← hZ] at hdf hz9 ⊢
 obtain ⟨IC, hIC⟩ : ∃ x, x = (cidOf id sd q) := ⟨_, rfl⟩
 obtain ⟨DC, hDC⟩ : ∃ x, x = (csdOf id sd q) := ⟨_, rfl⟩
 simp only [← hIC, ← hDC] at hnw hpb hs2
 have hcat : Hid (∀ w' v, LitL [A1, A2, A3, A4] w' v → Calls Tryz.prog 41 #[v] w' fun e w'' => ∃ r, e = .returned r ∧ BIn Z w'' r ∧ Own w' w'' []) := fun w' v h => by
  have h3 := catL_any w' v _ h (by rw [← hdf, hz9.out]; omega) (by simp)
  rwa [← hdf] at h3
 have hquo : (N : Int).tdiv 32 = q := by rw [Int.tdiv_eq_ediv_of_nonneg (by omega)]; omega
 have hrem : (N : Int).tmod 32 = r := by rw [Int.tmod_eq_emod_of_nonneg (by omega)]; omega
 clear h16 h32 hid hsd hk hK hO hmb hml hm hC hsz hN c16 c32 cbi cbs hpbb hpbl hdf hzl hCS hA1 hA2 hA3 hA4 hZ hIC hDC
 go_enter Tryz.func29, Tryz.ntmps29
 go_wp2_with (refine st_val rfl (rn_cell rfl rfl rfl rfl K.out.c0) ?_)
 refine region_grow 18 (by kernel_rfl) (by kernel_rfl) (by kernel_rfl) [.val (.pointer (some ⟨kb, 0, none⟩)), .val (.pointer (some ⟨kb, 0, none⟩)), .val (.pointer (some ⟨kb, 1, none⟩)), .val (.pointer (some ⟨tb, 0, none⟩)), .val (.pointer (some ⟨tb, 0, none⟩)), .val (.pointer (some ⟨tb, 0, none⟩)), .val (.agg (u8s (id ++ sd)).toArray), .val (.int .i64 N), .val (.int .i64 q), .val (.agg CS.toArray), .val (.pointer (some ⟨kb, 0, none⟩)), .val (.pointer (some ⟨kb, 0, none⟩)), .val (.pointer (some ⟨kb, 1, none⟩)), .val (.pointer (some ⟨tb, 0, none⟩)), .val (.pointer (some ⟨tb, 0, none⟩)), .val (.pointer (some ⟨tb, 48, none⟩)), .val (.int .i64 k), .rel (RNewT IC DC k)] rfl ?_
 have z100 := tt
 try go_frame
 repeat (first
  | (clear z100; refine sp_run (v := (.pointer (some ⟨tb, 0, none⟩))) rfl (fun w' hw' _ => rn_cell rfl rfl rfl rfl (K.out.mv hw' (by simp)).c1) ?_; try go_frame; have z101 := tt)
  | (clear z101; refine sp_run (v := (.agg (u8s (id ++ sd)).toArray)) rfl (fun w' hw' _ => rn_cells rfl rfl rfl rfl hsz48.out (K.out.mv hw' (by simp)).1.sc) ?_; try go_frame; have z102 := tt)
  | (clear z102; refine sp_callN (v := .agg CS.toArray) (args := #[.agg (u8s (id ++ sd)).toArray, .int .i64 q]) rfl rfl (by simp [Act.eval]) Tryz.func59 (by kernel_rfl) (by kernel_rfl) (fun w' _ _ => hch.out w') ?_; try go_frame; have z103 := tt)
  | (clear z103; refine sp_run (v := (.pointer (some ⟨tb, 0, none⟩))) rfl (fun w' hw' _ => rn_cell rfl rfl rfl rfl (K.out.mv hw' (by simp)).c1) ?_; try go_frame; have z104 := tt)
  | (clear z104; refine sp_run (v := (.int .i64 k)) rfl (fun w' hw' _ => rn_cell rfl rfl rfl rfl (hkc.out _ (K.out.mv hw' (by simp)).1)) ?_; try go_frame; have z105 := tt)
  | (clear z105; refine sp_callR (args := #[.agg CS.toArray, .int .i64 k]) (RNewT.mono _ _ _) rfl rfl (by simp [Act.eval]) Tryz.func10 (by kernel_rfl) (by kernel_rfl) (fun w' hw' hF => hnw.out w') ?_; intro v39; try go_frame; have z106 := tt)
  | (refine sp_val (fun w' hw' hF => ?_) ⟨_, rfl, nB rfl⟩ ?_
     · go_big_quiet_step (fail)
       first | exact rfl | simp
     try go_frame))
 refine sp_nil ?_
 intro w1 hw' hF
 have T1 := hF.2 _ rfl trivial
 have O1 := Hh hw'
 clear hF hnw hch hw'
 obtain ⟨lb, e1, T1'⟩ := T1
 subst e1
 have T1 := Hh T1'
 clear T1'
 simp only [List.drop_succ_cons, List.drop_zero]
 have K1 := Hh (K.out.mv O1.out (by simp))
 have M1 := Hh (M0.out.mv O1.out (by simp))
 clear K M0
 go_wp2_with fail
 refine region_grow 19 (by kernel_rfl) (by kernel_rfl) (by kernel_rfl) [.rel (BIn A1), .val (.pointer (some ⟨kb, 0, none⟩)), .val (.pointer (some ⟨kb, 0, none⟩)), .val (.pointer (some ⟨kb, 1, none⟩)), .val (.pointer (some ⟨tb, 0, none⟩)), .val (.int .i64 N), .val (.int .i64 q), .val (.pointer (some ⟨lb, 0, none⟩)), .rel (BIn A3), .rel (BIn A2), .val (.pointer (some ⟨lb, 0, none⟩)), .rel (BIn A3), .val (.pointer (some ⟨lb, 0, none⟩)), .val (.int .i64 N), .val (.int .i64 r), .val (.slice pm n cm), .rel (BIn A4), .rel (LitL [A1, A2, A3, A4]), .rel (BIn Z)] rfl ?_
 have z100 := tt
 try go_frame
 repeat (first
  | (clear z100; refine sp_callR (args := #[.int .u64 1, .int .i64 4]) (BIn.mono _) rfl rfl (by simp [Act.eval]) Tryz.func42 (by kernel_rfl) (by kernel_rfl) (fun w' hw' hF => hnm.out w') ?_; intro v40; try go_frame; have z101 := tt)
  | (clear z101; refine sp_run (v := (.pointer (some ⟨tb, 0, none⟩))) rfl (fun w' hw' _ => rn_cell rfl rfl rfl rfl (K1.out.mv hw' (by simp)).c1) ?_; try go_frame; have z102 := tt)
  | (clear z102; refine sp_callR (args := #[(.pointer (some ⟨lb, 0, none⟩))]) (BIn.mono _) rfl rfl (by simp [Act.eval]) Tryz.func13 (by kernel_rfl) (by kernel_rfl) (fun w' hw' hF => hpb.out w' lb (T1.out.mv hw' (by simp))) ?_; intro v48; try go_frame; have z103 := tt)
  | (clear z103; refine sp_callR (args := #[(.pointer (some ⟨tb, 0, none⟩)), .int .i64 q, v48]) (BIn.mono _) rfl rfl (by simp [Act.eval]) Tryz.func16 (by kernel_rfl) (by kernel_rfl) (fun w' hw' hF => hs1.out w' v48 (K1.out.mv hw' (by simp)).1 (hF.2 _ rfl (mE (by kernel_rfl)))) ?_; intro v49; try go_frame; have z104 := tt)
  | (clear z104; refine sp_callR (args := #[(.pointer (some ⟨lb, 0, none⟩))]) (BIn.mono _) rfl rfl (by simp [Act.eval]) Tryz.func13 (by kernel_rfl) (by kernel_rfl) (fun w' hw' hF => hpb.out w' lb (T1.out.mv hw' (by simp))) ?_; intro v51; try go_frame; have z105 := tt)
  | (clear z105; refine sp_callR (args := #[(.pointer (some ⟨lb, 0, none⟩)), .int .i64 r, .slice pm n cm]) (BIn.mono _) rfl rfl (by simp [Act.eval]) Tryz.func16 (by kernel_rfl) (by kernel_rfl) (fun w' hw' hF => hs2.out w' lb (T1.out.mv hw' (by simp)) (M1.out.mv hw' (by simp))) ?_; intro v56; try go_frame; have z106 := tt)
  | (clear z106; refine sp_rel (LitL.mono _) rfl (fun w' hw' hF => ?_) ?_
     · have r0 := hF.1.1.1.1.2 _ rfl (mE (by kernel_rfl))
       have s0 := r0.1
       obtain ⟨p0, c0, e0⟩ := s0
       subst e0
       have r1 := hF.1.1.2 _ rfl (mE (by kernel_rfl))
       have s1 := r1.1
       obtain ⟨p1, c1, e1⟩ := s1
       subst e1
       have r2 := hF.1.2 _ rfl (mE (by kernel_rfl))
       have s2 := r2.1
       obtain ⟨p2, c2, e2⟩ := s2
       subst e2
       have r3 := hF.2 _ rfl (mE (by kernel_rfl))
       have s3 := r3.1
       obtain ⟨p3, c3, e3⟩ := s3
       subst e3
       clear hF
       refine litL_build (e := 27) (l := [(.slice p0 A1.length c0, A1), (.slice p1 A2.length c1, A2), (.slice p2 A3.length c2, A3), (.slice p3 A4.length c3, A4)]) rfl rfl rfl (fun x hx => ?_) (fun w' => by kernel_rfl)
       simp only [List.mem_cons, List.not_mem_nil, or_false] at hx
       rcases hx with rfl | rfl | rfl | rfl
       · exact ⟨r0, bb1.out⟩
       · exact ⟨r1, bb2.out⟩
       · exact ⟨r2, bb3.out⟩
       · exact ⟨r3, bb4.out⟩
     intro v57; try go_frame; have z107 := tt)
  | (clear z107; refine sp_callR (args := #[v57]) (BIn.mono _) rfl rfl (by simp [Act.eval]) Tryz.func41 (by kernel_rfl) (by kernel_rfl) (fun w' hw' hF => hcat.out w' v57 (hF.2 _ rfl (mE (by kernel_rfl)))) ?_; intro v58; try go_frame; have z108 := tt)
  | (refine sp_val (fun w' hw' hF => ?_) ⟨_, rfl, nB rfl⟩ ?_
     · go_big_quiet_step (fail)
       first | exact rfl | simp
     try go_frame))
 refine sp_nil ?_
 intro w2 hw' hF
 have B := hF.2 _ rfl trivial
 obtain ⟨p, c, e1⟩ := B.1
 subst e1
 have O2 := Hh (O1.out.trans hw')
 have B1 := Hh B
 rw [hz9.out] at B1 ⊢
 clear hw' hF B
 simp only [List.drop_succ_cons, List.drop_zero]
 go_wp2_with fail
 go_ret
 exact ⟨p, c, rfl, B1.out.old', O2.out⟩
end Go.Proofs.YtfihlmnbonnekaaGreat
