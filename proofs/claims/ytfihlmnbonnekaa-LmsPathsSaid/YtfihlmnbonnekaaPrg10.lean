/- ots: Candidate of the right length, whole. -/
import Derived.Test.YtfihlmnbonnekaaPrg9
namespace Go.Proofs.Ytfihlmnbonnekaa
open Go.RowKit

theorem id_ {p : Prop} (h : p) : p := h

set_option maxRecDepth 100000 in
set_option maxHeartbeats 8000000 in
theorem cand_main (w : World) (id : List Int) (h16 : id.length = 16) (q k : Nat) (hq : q < 32) (hk : k = 1 ∨ k = 2 ∨ k = 4 ∨ k = 8) (mv sv : Value) (msg sig : List Int) (hm : Old w mv msg) (hmb : IsBytes msg) (hml : msg.length ≤ 90000) (hs : Old w sv sig) (hsb : IsBytes sig) (hl : sig.length = 36 + 32 * chN k) :
    Calls Try.prog 54 #[.agg (u8s id).toArray, .int .i64 q, .int .i64 k, mv, sv] w fun e w' => e = .returned (.tuple #[.agg (u8s (candOf id q k msg sig)).toArray, .int .i64 (candE k sig)]) ∧ Own w w' [] := by
  have H := Own.refl w
  have hmay : Hid (∀ w', Calls Try.prog 81 #[.int .i64 q, .int .i64 k] w' fun e w'' => e = .returned (.bool true) ∧ Own w' w'' []) := fun w' => by rw [← may_k hq hk]; exact may_any w' q k
  obtain ⟨t, ht255, ht1, ht2, hsh⟩ := two_pow hk
  obtain ⟨hC0, hC1⟩ := chN_le k
  obtain ⟨hcd0, hcd9⟩ := cdN_range k
  have hk8 : k ≤ 8 := by omega
  have hlo := Lib.hid (fun w' => long_k w' k hk)
  have hcd := Lib.hid (fun w' => code_k w' k hk)
  have hnew := Lib.hid (fun w' (h : Old w' sv sig) => rnew_any w' sv sig h (by omega))
  have hO := Lib.hid (fun w' L (h : Own w w' L) (hn : ∀ k ∈ L.map (·.1), w.heap.size ≤ k) => hs.mv h hn)
  have hOm : Hid (Old w mv msg) := hm
  obtain ⟨cb, hcb0⟩ : ∃ c, c = (sig.drop 4).take 32 := ⟨_, rfl⟩
  have hcb := Lib.hid hcb0
  have hcbl : Hid (cb.length = 32) := by show _ = _; rw [hcb0, List.length_take, List.length_drop]; omega
  have hcbb : Hid (IsBytes cb) := by rw [hcb0]; exact isBytes_take (isBytes_drop hsb _) _
  obtain ⟨M, hM⟩ : ∃ M, M = msgOf id q cb msg := ⟨_, rfl⟩
  have hMl : Hid (M.length = 32) := by show _ = _; rw [hM]; rfl
  have hMb : Hid (IsBytes M) := by rw [hM]; exact isBytes_sha _
  have hhash : Hid (∀ w' v, LitL [cb, msg] w' v → Calls Try.prog 83 #[.agg (u8s id).toArray, .int .i64 q, .int .i64 33153, v] w' fun e w'' => e = .returned (.agg (u8s M).toArray) ∧ Own w' w'' []) := fun w' v h => by
    have h2 := hash_any w' id h16 q 33153 hq (by omega) v [cb, msg] h (by have := hcbl.out; simp; omega) (by simp)
    rw [show sha (hashIn id q 33153 [cb, msg]) = M by rw [hM]; unfold hashIn msgOf; rw [show numB ((33153 : Nat) : Int) 2 = [129, 129] by kernel_rfl, List.append_assoc]; simp] at h2
    exact h2
  have hdig : Hid (∀ w', Calls Try.prog 82 #[.int .i64 k, .agg (u8s M).toArray] w' fun e w'' => ∃ r, e = .returned r ∧ TupI (digits M k) w'' r ∧ Own w' w'' []) := fun w' => digitsT_any w' k hk M hMl.out hMb.out
  have hdl := Lib.hid (length_digits M k)
  have hbe := Lib.hid (beN_eq (cd := cdN k) hsb (by omega) hcd0 hcd9)
  have hkey := Lib.hid (fun wk p5 p6 p12 p13 p15 r gd od cd' p c => candKey_any wk id h16 q k t hq hk ht2 ht255 M sig hl hsb p5 p6 p12 p13 p15 r gd od cd' p c)
  have hok : Hid (sig.take 4 = numB (cdN k) 4 → candOf id q k msg sig = endsOf id q (flatX (candX id q k M sig) (chN k)) ∧ candE k sig = 0) := fun h => by
    have e : candOk k sig = true := by unfold candOk; rw [decide_eq_true hl, decide_eq_true h]; rfl
    unfold candOf candE candK
    rw [e, if_pos rfl, if_pos rfl, ← hcb0, ← hM]
    exact ⟨rfl, rfl⟩
  have hno : Hid (¬ sig.take 4 = numB (cdN k) 4 → candOf id q k msg sig = List.replicate 32 0 ∧ candE k sig = 3) := fun h => by
    have e : candOk k sig = false := by unfold candOk; rw [decide_eq_false h]; simp
    unfold candOf candE
    rw [e]
    exact ⟨rfl, rfl⟩
  obtain ⟨R, hR⟩ : ∃ R, R = endsOf id q (flatX (candX id q k M sig) (chN k)) := ⟨_, rfl⟩
  have hRl : Hid (R.length = 32) := by show _ = _; rw [hR]; rfl
  rw [← hR] at hok
  simp only [← hR] at hkey
  obtain ⟨cO, hcO⟩ : ∃ R, R = candOf id q k msg sig := ⟨_, rfl⟩
  obtain ⟨cE, hcE⟩ : ∃ R, R = candE k sig := ⟨_, rfl⟩
  rw [← hcO, ← hcE] at hok hno ⊢
  obtain ⟨ds, hds⟩ : ∃ d, d = digits M k := ⟨_, rfl⟩
  rw [← hds] at hdig hdl
  simp only [← hds] at hkey
  obtain ⟨cd, hcd1⟩ : ∃ c, c = cdN k := ⟨_, rfl⟩
  rw [← hcd1] at hcd hcd0 hcd9 hbe hok hno
  obtain ⟨C, hC⟩ : ∃ C, C = chN k := ⟨_, rfl⟩
  rw [← hC] at hC0 hC1 hdl hlo
  have hl' : Hid (sig.length = 36 + 32 * C) := by rw [hC]; exact hl
  simp only [← hC] at hkey
  have hsz := Lib.hid (size_idL h16)
  have hsb' := Lib.hid hsb
  have hmb' := Lib.hid hmb
  obtain ⟨ps, cs, rfl⟩ := hs.shape
  obtain ⟨pm, cm, rfl⟩ := hm.shape
  obtain ⟨mn, hmn⟩ : ∃ n, n = msg.length := ⟨_, rfl⟩
  have hmn' := Lib.hid hmn
  rw [← hmn] at hOm ⊢
  obtain ⟨sn, hsn⟩ : ∃ n, n = 36 + 32 * C := ⟨_, rfl⟩
  have hsl : Hid (sig.length = sn) := by rw [hsn]; exact hl'.out
  rw [hsl.out] at hO hnew ⊢
  rw [← hsn] at hlo
  have hsn' := Lib.hid hsn
  have hsn4 : 4 ≤ sn := by omega
  have hsn36 : 36 ≤ sn := by omega
  have hsn9 : sn ≤ 1000000 := by omega
  have hn3 := Lib.hid (fun w' r c' p' (h1 : Own w' w' [(r, [.slice p' sn c', .bool false], 132)]) (h2 : BytesAt w' (.slice p' sn c') sig) (h3 : ∀ k, blk (Value.slice p' sn c') = some k → k ≠ r) => rnum4_any w' r sn c' p' sig h1 h2 hsl.out.symm hsn4 hsn9 hsb h3)
  have hmw : Hid (∀ k, blk (Value.slice pm mn cm) = some k → k < w.heap.size) := hOm.out.2
  clear hk hs hsb hl hm hmb hml hM hcb0 hR hcO hcE hds hcd1 hC hsn hmn h16 ht1 ht2
  obtain ⟨v, hv⟩ : ∃ v, v = beN sig 4 := ⟨_, rfl⟩
  rw [← hv] at hbe
  simp only [← hv] at hn3
  clear hv
  by_cases hvc : v = cd
  · subst hvc
    have hok1 := Lib.hid (hok.out (hbe.out.1 rfl))
    clear hok hno hbe
    go_enter Try.func54, Try.ntmps54
    have tok1 : True := trivial
    go_wp2_with (first
      | (clear tok1; refine st_new rfl (rn_box (cs := u8s id) H rfl rfl rfl) ?_; clear H; intro b5 w1 hb5 H; have tok2 : True := trivial)
      | (clear tok2; refine st_new rfl (rn_box (cs := i64s [(q : Int)]) H rfl rfl rfl) ?_; clear H; intro b6 w2 hb6 H; have tok3 : True := trivial)
      | (clear tok3; refine st_new rfl (rn_alloc H rfl info_hash) ?_; clear H; intro b10 w3 hb10 H; have tok4 : True := trivial)
      | (refine st_val rfl (rn_load H rfl rfl (.tail _ (.head _)) rfl rfl rfl) ?_)
      | (clear tok4; go_at_call 81; refine (hmay.out _).mono ?_; rintro e w4 ⟨rfl, h3⟩; have H2 := H.call0 h3; clear H h3; have H := H2; clear H2; have tok5 : True := trivial)
      | (clear tok5; go_at_call 50; refine (hnew.out _ (hO.out _ _ H (by simp; omega))).mono ?_; rintro e w5 ⟨r, p1, c1, rfl, hr, hbin, hfr, h3⟩; have gr := Nat.le_trans H.size hr; have H2 := H.callNew h3 hr;
          have f1 : ∀ k, blk (Value.slice p1 sn c1) = some k → k ≠ b5 ∧ k ≠ b6 ∧ k ≠ b10 ∧ k ≠ r ∧ k < w5.heap.size ∧ w.heap.size ≤ k := (fun k hk => by
            have a1 := hfr k hk
            have a2 := hbin.2.2 k hk
            have a3 := H.lt (.head _)
            have a4 := H.lt (.tail _ (.head _))
            have a5 := H.lt (.tail _ (.tail _ (.head _)))
            have a6 := H.size
            exact ⟨by omega, by omega, by omega, a1.1, a2, by omega⟩);
          have F1 := Lib.hid f1; have BY1 := Lib.hid hbin.2.1; clear H h3 f1 hbin hfr; have HW5 := Lib.hid H2; have H := H2.self; clear H2; have tok6 : True := trivial)
      | (clear tok6; refine st_new rfl (rn_alloc H rfl info_rp) ?_; clear H; intro b12 w6 hb12 H; have tok7 : True := trivial)
      | (clear tok7; refine st_skip rfl (rn_store (v := .pointer (some ⟨r, 0, none⟩)) H rfl rfl rfl (by kernel_rfl) .head (by simp) rfl) ?_; clear H; intro w7 H; have tok8 : True := trivial)
      | (clear tok8; go_at_call 53; refine (hlo.out _).mono ?_; rintro e w8 ⟨rfl, h3⟩; have H2 := H.call0 h3; clear H h3; have H := H2; clear H2; have e12 : w8.cell? ⟨b12, 0, none⟩ = some (.pointer (some ⟨r, 0, none⟩)) := H.cell (.head _) 0; have tok9 : True := trivial)
      | (clear tok9; go_at_call 51; refine (hn3.out w8 r c1 p1 (H.sub1 (.tail _ (.head _))) (SlAt.own BY1.out H (fun k hk hm => (by have := F1.out k hk; simp at hm; omega))) (fun k hk => (F1.out k hk).2.2.2.1)).mono ?_; rintro e w9 ⟨rfl, p4, c4, h3, hb4, hk4⟩; have H2 := Own.callAt (L1 := [_]) H h3; have BY4 := Lib.hid hb4; have F4 := Lib.hid (fun k hk => F1.out k (hk4 k hk)); clear H h3 e12 hb4 hk4; have H := H2; clear H2; have tok10 : True := trivial)
      | (clear tok10; go_at_call 62; refine (hcd.out _).mono ?_; rintro e w10 ⟨rfl, h3⟩; have H2 := H.call0 h3; have BY10 := Lib.hid (SlAt.own0 BY4.out h3); clear H h3 BY4; have H := H2; clear H2; have tok11 : True := trivial))
    have HM := Lib.hid H
    have hw5 := HW5.out.size
    have hw10 := H.size
    have hno5 : Own w w10 [] := Own.transNew HW5.out H (by simp; omega) (by simp; omega)
    have hno5' := Lib.hid hno5
    have hnd : (([b12, r, b10, b6, b5] : List Nat)).Nodup := H.nodup
    have l12 := H.lt (.head _)
    have lr := H.lt (.tail _ (.head _))
    have l10 := H.lt (.tail _ (.tail _ (.head _)))
    have l6 := H.lt (.tail _ (.tail _ (.tail _ (.head _))))
    have l5 := H.lt (.tail _ (.tail _ (.tail _ (.tail _ (.head _)))))
    have H0 : Own w10 w10 [(b12, [.pointer (some ⟨r, 0, none⟩)], 89), (r, [.slice p4 (sn - 4) c4, .bool false], 132), (b10, u8s (List.replicate 32 0), 28), (b6, i64s [(q : Int)], 3), (b5, u8s id, 26)] := H.self
    clear H
    have F5 : Hid (∀ k, blk (Value.slice p4 (sn - 4) c4) = some k → k ≠ b12 ∧ k ≠ r ∧ k ≠ b10 ∧ k ≠ b6 ∧ k ≠ b5 ∧ k < w10.heap.size) := fun k hk => by have := F4.out k hk; omega
    have hmsz := hno5.size
    have hmo : Hid (∀ w' cs, Own w10 w' [(b12, [.pointer (some ⟨r, 0, none⟩)], 89), (r, cs, 132), (b10, u8s (List.replicate 32 0), 28), (b6, i64s [(q : Int)], 3), (b5, u8s id, 26)] → BIn msg w' (.slice pm mn cm)) := fun w' cs h => by
      have h1 : Old w10 (.slice pm mn cm) msg := hOm.out.mv hno5 (by simp)
      refine ⟨⟨_, _, by rw [hmn'.out]⟩, SlAt.own h1.1 h (fun k hk hm => ?_), fun k hk => Nat.lt_of_lt_of_le (h1.2 k hk) h.size⟩
      have := hmw.out k hk
      simp at hm
      omega
    have hraw := Lib.hid (fun w' (h1 : Own w' w' [(r, [.slice p4 (sn - 4) c4, .bool false], 132)]) (h2 : BytesAt w' (.slice p4 (sn - 4) c4) (sig.drop 4)) => rraw_any w' r (sn - 4) c4 32 p4 (sig.drop 4) h1 h2 (by rw [List.length_drop, hsl.out]) (by omega) (by omega) (fun k hk => (F5.out k hk).2.1))
    have hby : Hid (∀ w', Own w10 w' [(b12, [.pointer (some ⟨r, 0, none⟩)], 89), (r, [.slice p4 (sn - 4) c4, .bool false], 132), (b10, u8s (List.replicate 32 0), 28), (b6, i64s [(q : Int)], 3), (b5, u8s id, 26)] → BytesAt w' (.slice p4 (sn - 4) c4) (sig.drop 4)) := fun w' h => SlAt.own BY10.out h (fun k hk hm => by have := F5.out k hk; simp at hm; omega)
    have hcb' : Hid ((sig.drop 4).take 32 = cb) := hcb.out.symm
    have hd36 : Hid ((sig.drop 4).drop 32 = sig.drop 36) := by show _ = _; rw [List.drop_drop]
    have hs36 : Hid (sn - 4 - 32 = sn - 36) := by show _ = _; omega
    have hBk : Hid (∀ (cs : List Value) k, k ∈ ([(b12, [.pointer (some ⟨r, 0, none⟩)], 89), (r, cs, 132), (b10, u8s (List.replicate 32 0), 28), (b6, i64s [(q : Int)], 3), (b5, u8s id, 26)] : List Ent).map (·.1) → k < w10.heap.size) := fun cs k hk => by simp at hk; omega
    obtain ⟨St, hSt⟩ : ∃ St : Nat → Act → World → Prop, St = fun s a' w' => w10.heap.size ≤ w'.heap.size ∧ (match s with
        | 0 => Own w10 w' [(b12, [.pointer (some ⟨r, 0, none⟩)], 89), (r, [.slice p4 (sn - 4) c4, .bool false], 132), (b10, u8s (List.replicate 32 0), 28), (b6, i64s [(q : Int)], 3), (b5, u8s id, 26)]
        | s + 1 => (∃ p' c', Own w10 w' [(b12, [.pointer (some ⟨r, 0, none⟩)], 89), (r, [.slice p' (sn - 36) c', .bool false], 132), (b10, u8s (List.replicate 32 0), 28), (b6, i64s [(q : Int)], 3), (b5, u8s id, 26)] ∧ BytesAt w' (.slice p' (sn - 36) c') (sig.drop 36) ∧ ∀ k, blk (Value.slice p' (sn - 36) c') = some k → blk (Value.slice p4 (sn - 4) c4) = some k) ∧
          (match s with | 0 => True | _ => ∃ g sl, a'.tmps.getD 13 undef = .pointer (some ⟨g, 0, none⟩) ∧ w10.heap.size ≤ g ∧ w'.heap[g]? = some (.cells #[sl] 39 (0, 0)) ∧ IIn .i64 ds w' sl)) := ⟨_, rfl⟩
    have hSb : Hid (∀ w', (∃ s a', St s a' w') → w10.heap.size ≤ w'.heap.size ∧ ∃ cs, Own w10 w' [(b12, [.pointer (some ⟨r, 0, none⟩)], 89), (r, cs, 132), (b10, u8s (List.replicate 32 0), 28), (b6, i64s [(q : Int)], 3), (b5, u8s id, 26)]) := fun w' ⟨s, a', h⟩ => by
      rw [hSt] at h
      cases s with
      | zero => exact ⟨h.1, _, h.2⟩
      | succ s => obtain ⟨h1, ⟨p', c', h2, _⟩, _⟩ := h; exact ⟨h1, _, h2⟩
    have hS0 : Hid (∀ a' w', St 0 a' w' ↔ w10.heap.size ≤ w'.heap.size ∧ Own w10 w' [(b12, [.pointer (some ⟨r, 0, none⟩)], 89), (r, [.slice p4 (sn - 4) c4, .bool false], 132), (b10, u8s (List.replicate 32 0), 28), (b6, i64s [(q : Int)], 3), (b5, u8s id, 26)]) := fun a' w' => by rw [hSt]
    have hS1 : Hid (∀ a' w', St 1 a' w' ↔ w10.heap.size ≤ w'.heap.size ∧ (∃ p' c', Own w10 w' [(b12, [.pointer (some ⟨r, 0, none⟩)], 89), (r, [.slice p' (sn - 36) c', .bool false], 132), (b10, u8s (List.replicate 32 0), 28), (b6, i64s [(q : Int)], 3), (b5, u8s id, 26)] ∧ BytesAt w' (.slice p' (sn - 36) c') (sig.drop 36) ∧ ∀ k, blk (Value.slice p' (sn - 36) c') = some k → blk (Value.slice p4 (sn - 4) c4) = some k) ∧ True) := fun a' w' => by rw [hSt]; exact Iff.rfl
    have hS2 : Hid (∀ a' w', St 2 a' w' ↔ w10.heap.size ≤ w'.heap.size ∧ (∃ p' c', Own w10 w' [(b12, [.pointer (some ⟨r, 0, none⟩)], 89), (r, [.slice p' (sn - 36) c', .bool false], 132), (b10, u8s (List.replicate 32 0), 28), (b6, i64s [(q : Int)], 3), (b5, u8s id, 26)] ∧ BytesAt w' (.slice p' (sn - 36) c') (sig.drop 36) ∧ ∀ k, blk (Value.slice p' (sn - 36) c') = some k → blk (Value.slice p4 (sn - 4) c4) = some k) ∧ ∃ g sl, a'.tmps.getD 13 undef = .pointer (some ⟨g, 0, none⟩) ∧ w10.heap.size ≤ g ∧ w'.heap[g]? = some (.cells #[sl] 39 (0, 0)) ∧ IIn .i64 ds w' sl) := fun a' w' => by rw [hSt]; exact Iff.rfl
    have hSm : Hid (∀ s a' w1 w2, St s a' w1 → Own w1 w2 [] → St s a' w2) := fun s a' w1 w3 h1 h2 => by
      rw [hSt] at h1 ⊢
      cases s with
      | zero => exact ⟨Nat.le_trans h1.1 h2.size, h1.2.call0 h2⟩
      | succ s =>
        obtain ⟨h3, ⟨p', c', h4, h5, h6⟩, h7⟩ := h1
        refine ⟨Nat.le_trans h3 h2.size, ⟨p', c', h4.call0 h2, SlAt.own0 h5 h2, h6⟩, ?_⟩
        cases s with
        | zero => trivial
        | succ s => obtain ⟨g, sl, h8, h9, h10, h11⟩ := h7; exact ⟨g, sl, h8, h9, by rw [h2.keep g (Array.getElem?_eq_some_iff.1 h10).1 (by simp)]; exact h10, (IIn.mono _ _) _ _ _ h2 h11⟩
    have hSp : Hid (∀ s a' w' d v, (d ∉ [13] ∨ s ≤ 1) → St s a' w' → St s (a'.put (some d) v) w') := fun s a' w' d v hd h => by
      rw [hSt] at h ⊢
      match s, h with
      | 0, h => exact h
      | 1, h => exact h
      | s + 2, h =>
        obtain ⟨h1, h2, g, sl, h3, h4⟩ := h
        refine ⟨h1, h2, g, sl, ?_, h4⟩
        have hne : d ≠ 13 := by
          rcases hd with hd | hd
          · simpa using hd
          · omega
        rw [← h3]
        show (a'.tmps.setIfInBounds d v).getD 13 undef = _
        simp [hne]
    clear hSt
    refine region_effF 14 (by kernel_rfl) (by kernel_rfl) (by kernel_rfl) [.val (.int .i64 k), .val (.agg (u8s id).toArray), .val (.int .i64 q), .val (.pointer (some ⟨r, 0, none⟩)), .eff (RdE w10.heap.size r) (UIn w10.heap.size cb), .val (.slice pm mn cm), .rel (LitL [cb, msg]), .val (.agg (u8s M).toArray), .rel (TupI ds), .rel (TupI ds), .rel (IIn .i64 ds), .val (.int .i64 0), .rel (CellT w10.heap.size 39), .eff (CeE 39 1) (fun _ _ => True)] rfl ?_ (by kernel_rfl) St ((hS0.out _ _).2 ⟨Nat.le_refl _, H0⟩) hSm.out [13] 13 (fun s a' w' d v h1 h2 => hSp.out s a' w' d v h1 h2) (by kernel_rfl) ?_
    · simp only [eAll, eRow, Se.pres, or_true, true_and, and_true, implies_true]
      exact ⟨⟨Or.inl trivial, Or.inr (Or.inl (by kernel_rfl)), Or.inr (Or.inr TupI.presR), Or.inr (Or.inr TupI.presR), Or.inr (Or.inr IIn.presR), Or.inr (Or.inr CellT.presR)⟩, Or.inr (Or.inr (UIn.presC (by decide))), Or.inr (Or.inr (LitL.presC (by simp))), Or.inr (Or.inr TupI.presC), Or.inr (Or.inr TupI.presC), Or.inr (Or.inr IIn.presC), Or.inr (Or.inr CellT.presC)⟩
    have tok3 : True := trivial
    try go_frame
    repeat (first
      | (clear tok3; refine sf_run (v := .agg (u8s id).toArray) rfl (fun w' hw' _ => rn_cells rfl rfl rfl rfl hsz.out (fun j v hj => by obtain ⟨_, cs, q1⟩ := hSb.out w' hw'; rw [q1.cell (.tail _ (.tail _ (.tail _ (.tail _ (.head _))))), Nat.zero_add]; exact hj)) ?_; go_frame; have tok4 : True := trivial)
      | (clear tok4; refine sf_run (v := .int .i64 q) rfl (fun w' hw' _ => rn_cell rfl rfl rfl rfl (by obtain ⟨_, cs, q1⟩ := hSb.out w' hw'; exact q1.cell (.tail _ (.tail _ (.tail _ (.head _)))) 0)) ?_; go_frame; have tok5 : True := trivial)
      | (clear tok5; refine sf_run (v := .pointer (some ⟨r, 0, none⟩)) rfl (fun w' hw' _ => rn_cell rfl rfl rfl rfl (by obtain ⟨_, cs, q1⟩ := hSb.out w' hw'; exact q1.cell (.head _) 0)) ?_; go_frame; have tok6 : True := trivial)
      | (clear tok6; refine sf_callE (args := #[.pointer (some ⟨r, 0, none⟩), .int .i64 32]) (UIn.mono _ _) rfl rfl rfl (by simp [Act.eval]) Try.func52 (by kernel_rfl) (by kernel_rfl) (fun a' w' _ hS hF => ?_) ?_
         · obtain ⟨q1, q2⟩ := (hS0.out a' w').1 hS
           refine (hraw.out w' (q2.sub1 (.tail _ (.head _))) (hby.out w' q2)).mono ?_
           rintro e w'' ⟨v, p', c', rfl, ⟨Lv, ⟨g1, g2⟩, g3, g4⟩, q3, q4⟩
           rw [hs36.out] at g3 q3 q4
           rw [hd36.out] at q3
           rw [hcb'.out] at g1 g2
           have ho := Own.drop g3 g4
           refine ⟨v, rfl, ?_, ⟨lr, ⟨.slice p4 (sn - 4) c4, .bool false, (fun _ _ h => by cases h), (fun _ _ h => by cases h), q2.here _ _ _ (.tail _ (.head _))⟩, _, ho⟩, (hS1.out _ w'').2 ⟨Nat.le_trans q1 ho.size, ⟨p', c', Own.callAt (L1 := [_]) q2 ho, q3, q4⟩, trivial⟩⟩
           rcases g2 with ⟨_, g5, _⟩ | ⟨g, cap, cs, g5, rfl, g6, g7, g8, g9⟩
           · have := hcbl.out; omega
           · exact ⟨g, cap, g5, g6, cs, Nat.le_trans q1 (g4 g (by simp)), g3.here _ _ _ (.head _), by rw [Nat.mul_one] at g9; exact g9⟩
         intro v42; go_frame; have tok7 : True := trivial)
      | (clear tok7; refine sf_rel (LitL.mono _) rfl (fun w' hw' hF => ?_) ?_
         · have hbin := (hF.2 _ rfl (List.mem_of_elem_eq_true (by kernel_rfl))).bin
           obtain ⟨_, cr, q4⟩ := hSb.out w' hw'
           have hsh := hbin.1
           obtain ⟨pg, c1, e1⟩ := hsh
           subst e1
           refine litL_build (e := 33) (l := [(.slice pg cb.length c1, cb), (.slice pm mn cm, msg)]) rfl rfl rfl (fun x hx => ?_) (fun w' => by kernel_rfl)
           simp only [List.mem_cons, List.not_mem_nil, or_false] at hx
           rcases hx with rfl | rfl
           · exact ⟨hbin, hcbb.out⟩
           · exact ⟨hmo.out w' cr q4, hmb'.out⟩
         intro v44; go_frame; have tok8 : True := trivial)
      | (clear tok8; refine sf_callN (v := .agg (u8s M).toArray) (args := #[.agg (u8s id).toArray, .int .i64 q, .int .i64 33153, v44]) rfl rfl (by simp [Act.eval]) Try.func83 (by kernel_rfl) (by kernel_rfl) (fun w' hw' hF => hhash.out w' v44 (hF.2 _ rfl (List.mem_of_elem_eq_true (by kernel_rfl)))) ?_; go_frame; have tok9 : True := trivial)
      | (clear tok9; refine sf_callR (args := #[.int .i64 k, .agg (u8s M).toArray]) (TupI.mono _) rfl rfl (by simp [Act.eval]) Try.func82 (by kernel_rfl) (by kernel_rfl) (fun w' _ _ => hdig.out w') ?_; intro v46; go_frame; have tok10 : True := trivial)
      | (clear tok10; refine sf_rel (TupI.mono _) rfl (fun w' hw' hF => yieldsTo_val' (rn_move rfl rfl) ⟨Own.refl _, hF.2 _ rfl (List.mem_of_elem_eq_true (by kernel_rfl))⟩) ?_; intro v37; go_frame; have tok11 : True := trivial)
      | (clear tok11; refine sf_rel (IIn.mono _ _) rfl (fun w' hw' hF => ?_) ?_
         · obtain ⟨p, c, e34, h34⟩ := hF.2 _ rfl (List.mem_of_elem_eq_true (by kernel_rfl))
           exact yieldsTo_val' (rn_extract rfl e34 rfl) ⟨Own.refl _, h34⟩
         intro v47; go_frame; have tok12 : True := trivial)
      | (clear tok12; refine sf_run (v := .int .i64 0) rfl (fun w' hw' hF => ?_) ?_
         · obtain ⟨p, c, e34, h34⟩ := hF.1.2 _ rfl (List.mem_of_elem_eq_true (by kernel_rfl))
           exact rn_extract rfl e34 rfl
         go_frame; have tok13 : True := trivial)
      | (clear tok13; refine sf_rel CellT.mono rfl (fun w' hw' hF => cellT_alloc rfl info_ints (fun _ _ h => by cases h) (hSb.out w' hw').1) ?_
         intro v13; go_frame; have tok14 : True := trivial)
      | (clear tok14; refine sf_store rfl rfl (fun a' w' hag hS hF => ?_) ?_
         · obtain ⟨q1, ⟨p', c', q2, q3, q4⟩, _⟩ := (hS1.out a' w').1 hS
           obtain ⟨g, c0, e13, q5, q6, q7⟩ := hF.2 _ rfl (List.mem_of_elem_eq_true (by kernel_rfl))
           have q8 := hF.1.2 _ rfl (List.mem_of_elem_eq_true (by kernel_rfl))
           subst e13
           obtain ⟨⟨p47, c47, e47⟩, _⟩ := id_ q8
           subst e47
           have hone : Own w' w' [(g, [c0], 39)] := Own.one q7
           have hE : ∀ w'', Own w' w'' [(g, [.slice p47 ds.length c47], 39)] → CeE 39 1 w' w'' := fun w'' ho1 => ⟨g, [c0], [.slice p47 ds.length c47], ⟨rfl, fun c hc => by simp at hc; subst hc; exact q6⟩, q7, ho1, rfl, fun c hc => by simp at hc; subst hc; exact fun _ _ h => by cases h⟩
           have hag13 : a'.tmps.getD 13 undef = .pointer (some ⟨g, 0, none⟩) := hag 13 (List.mem_of_elem_eq_true (by kernel_rfl))
           have hSS : ∀ w'', Own w' w'' [(g, [.slice p47 ds.length c47], 39)] → St 2 a' w'' := fun w'' ho1 => (hS2.out a' w'').2 ⟨Nat.le_trans q1 ho1.size, ⟨p', c', q2.young ho1 (by omega) (fun hm => by have := hBk.out _ g hm; omega), SlAt.own q3 ho1 (fun k hk hm => by
             simp at hm
             have := F5.out k (q4 k hk)
             omega), q4⟩, g, .slice p47 ds.length c47, hag13, q5, ho1.here _ _ _ (.head _), IIn.presC _ _ _ (hE w'' ho1) q8⟩
           exact (rn_store (i := 0) (v := .slice p47 ds.length c47) hone rfl rfl rfl (by kernel_rfl) .head (by simp) rfl).imp fun w'' h => ⟨h.1, hE w'' h.2, hSS w'' h.2⟩
         go_frame)
      | (refine sf_val (fun w' hw' hF => ?_) ⟨_, rfl, Nat.le_of_ble_eq_true rfl⟩ ?_
         · go_big_quiet_step (fail)
           exact rfl
         try go_frame))
    refine sf_nil ?_
    intro w11 hS hF
    obtain ⟨q1, ⟨p', c', q2, q3, q4⟩, g, sl, e13, q5, q7, q8⟩ := (hS2.out _ _).1 hS
    have e13' : v13 = .pointer (some ⟨g, 0, none⟩) := e13
    subst e13'
    have e36 : sn - 36 = 32 * C := by have := hsn'.out; omega
    rw [e36] at q2 q3 q4
    have q8' := q8.1
    obtain ⟨pd, cdg, esl⟩ := q8'
    subst esl
    obtain ⟨gd, od, epd, _, hdc⟩ := q8.cellAt (by rw [hdl.out]; omega)
    subst epd
    rw [hdl.out] at q7 q8
    have hgk : g ∉ ([b12, r, b10, b6, b5] : List Nat) := fun hm => by simp at hm; omega
    have hgdr : gd ≠ r := by
      rintro rfl
      obtain ⟨z, hz⟩ : ∃ z, (ints .i64 ds)[0]? = some (.int .i64 z) := ⟨_, ints_get (by rw [hdl.out]; omega)⟩
      have h1 := hdc 0 _ hz
      rw [q2.cell (.tail _ (.head _))] at h1
      have h2 := List.mem_of_getElem? h1
      simp at h2
    have lgd : gd < w11.heap.size := by
      obtain ⟨z, hz⟩ : ∃ z, (ints .i64 ds)[0]? = some (.int .i64 z) := ⟨_, ints_get (by rw [hdl.out]; omega)⟩
      exact World.block_lt_of_cell? w11 _ (hdc 0 _ hz)
    have HA := Lib.hid (Own.adopt q2 q7 (by simpa using hgk))
    have z5 : ∀ j v, (u8s id)[j]? = some v → w11.cell? ⟨b5, 0 + j, none⟩ = some v := fun j v hj => by rw [q2.cell (.tail _ (.tail _ (.tail _ (.tail _ (.head _))))), Nat.zero_add]; exact hj
    have z6 : w11.cell? ⟨b6, 0, none⟩ = some (.int .i64 q) := q2.cell (.tail _ (.tail _ (.tail _ (.head _)))) 0
    have z12 : w11.cell? ⟨b12, 0, none⟩ = some (.pointer (some ⟨r, 0, none⟩)) := q2.cell (.head _) 0
    have zg : w11.cell? ⟨g, 0, none⟩ = some (.slice (some ⟨gd, od, none⟩) C cdg) := by rw [cell_of_row w11 g 0 _ _ _ q7]; rfl
    have lg : g < w11.heap.size := (Array.getElem?_eq_some_iff.1 q7).1
    have zr := q2.here _ _ _ (.tail _ (.head _))
    have Z := Lib.hid (show (∀ wk b15 cs15 T15, Own w11 wk [(b15, cs15, T15)] → w11.heap.size ≤ b15 → (∀ j v, (u8s id)[j]? = some v → wk.cell? ⟨b5, 0 + j, none⟩ = some v) ∧ wk.cell? ⟨b6, 0, none⟩ = some (.int .i64 q) ∧ wk.cell? ⟨b12, 0, none⟩ = some (.pointer (some ⟨r, 0, none⟩)) ∧ wk.cell? ⟨g, 0, none⟩ = some (.slice (some ⟨gd, od, none⟩) C cdg) ∧ (∀ i v, (ints .i64 ds)[i]? = some v → wk.cell? ⟨gd, od + i, none⟩ = some v) ∧ Own wk wk [(r, [.slice p' (32 * C) c', .bool false], 132)] ∧ BytesAt wk (.slice p' (32 * C) c') (sig.drop 36) ∧ (∀ k', blk (Value.slice p' (32 * C) c') = some k' → k' ≠ r ∧ k' < wk.heap.size)) from fun wk b15 cs15 T15 h hb => by
      have hn : ∀ x, x < w11.heap.size → x ∉ ([(b15, cs15, T15)] : List Ent).map (·.1) := fun x hx hm => by simp at hm; omega
      refine ⟨fun j v hj => h.old (z5 j v hj) (hn _ (by omega)), h.old z6 (hn _ (by omega)), h.old z12 (hn _ (by omega)), h.old zg (hn _ lg), fun i v hi => h.old (hdc i v hi) (hn _ lgd), Own.one (by rw [h.keep r (by omega) (hn _ (by omega))]; exact zr), SlAt.own q3 h (fun k' hk' => hn _ (by have := F5.out k' (q4 k' hk'); omega)), fun k' hk' => ?_⟩
      have := F5.out k' (q4 k' hk')
      have := h.size
      omega)
    have hw11 := Lib.hid q1
    clear hS hF hraw hby hmo hhash hdig hBk hSb hS0 hS1 hS2 hSm hSp z5 z6 z12 zg zr q2 q3 q4 q7 q8 e13 hdc H0 St
    simp only [List.drop_succ_cons, List.drop_zero]
    have H := Own.refl w11
    have tok12 : True := trivial
    go_wp2_with (first
      | (clear tok12; refine st_new rfl (rn_alloc H rfl info_int) ?_; clear H; intro b15 w12 hb15 H; have tok13 : True := trivial)
      | (clear tok13; refine st_skip rfl (rn_store (v := .int .i64 t) H rfl rfl rfl (by kernel_rfl) .head (by simp) rfl) ?_; clear H; intro w13 H; have ZK := Lib.hid (Z.out _ _ _ _ H hb15); have l15 := H.lt (.head _); have hs13 := H.size; have tok14 : True := trivial)
      | (clear tok14; refine st_val rfl (rn_cells rfl rfl rfl rfl hsz.out ZK.out.1) ?_; have tok15 : True := trivial)
      | (clear tok15; refine st_val rfl (rn_cell rfl rfl rfl rfl ZK.out.2.1) ?_; have tok16 : True := trivial)
      | (clear tok16; go_at_call 84; refine (hkey.out w13 b5 b6 b12 g b15 r gd od cdg p' c' ZK.out.2.2.2.2.2.1 ZK.out.2.2.2.2.2.2.1 ZK.out.2.2.2.2.2.2.2 ZK.out.1 ZK.out.2.1 ZK.out.2.2.1 ZK.out.2.2.2.1 ZK.out.2.2.2.2.1 (H.cell (.head _) 0) ⟨⟨by omega, by omega, by omega, by omega, by omega, by omega⟩, by simp at hnd; omega, by simp at hnd; omega, by simp at hnd; omega, by simp at hgk; omega, by omega, hgdr⟩).mono ?_; rintro e w14 ⟨rfl, csr, h3⟩; have H2 := Own.callAt (L1 := [_, _, _]) (HA.out.callNew H hb15) h3; clear H h3; have H := H2; clear H2; have tok17 : True := trivial)
      | (clear tok17; refine st_skip rfl (rn_storeAll (vs := u8s R) H rfl rfl rfl (size_hashL hRl.out) (.tail (.tail (.tail (.tail .head)))) (by rw [length_ints, length_ints, hRl.out]; rfl) (oneCell_ints _ _)) ?_; clear H; intro w15 H))
    refine fin_cell2 (cs := u8s R) rfl H rfl (.tail _ (.tail _ (.tail _ (.tail _ (.head _))))) rfl rfl (size_hashL hRl.out) rfl rfl ⟨by rw [hok1.out.1, hok1.out.2]; rfl, ?_⟩
    have hx1 := hw11.out
    exact Own.transNew hno5'.out H (by simp) (by simp; omega)
  · have hvb : (v == cd) = false := by rw [beq_eq_false_iff_ne]; exact hvc
    have hno1 := Lib.hid (hno.out (fun h => hvc (hbe.out.2 h)))
    clear hok hno hbe
    go_enter Try.func54, Try.ntmps54
    have tok1 : True := trivial
    go_wp2_with (first
      | (clear tok1; refine st_new rfl (rn_box (cs := u8s id) H rfl rfl rfl) ?_; clear H; intro b5 w1 hb5 H; have tok2 : True := trivial)
      | (clear tok2; refine st_new rfl (rn_box (cs := i64s [(q : Int)]) H rfl rfl rfl) ?_; clear H; intro b6 w2 hb6 H; have tok3 : True := trivial)
      | (clear tok3; refine st_new rfl (rn_alloc H rfl info_hash) ?_; clear H; intro b10 w3 hb10 H; have tok4 : True := trivial)
      | (refine st_val rfl (rn_load H rfl rfl (.tail _ (.head _)) rfl rfl rfl) ?_)
      | (clear tok4; go_at_call 81; refine (hmay.out _).mono ?_; rintro e w4 ⟨rfl, h3⟩; have H2 := H.call0 h3; clear H h3; have H := H2; clear H2; have tok5 : True := trivial)
      | (clear tok5; go_at_call 50; refine (hnew.out _ (hO.out _ _ H (by simp; omega))).mono ?_; rintro e w5 ⟨r, p1, c1, rfl, hr, hbin, hfr, h3⟩; have gr := Nat.le_trans H.size hr; have H2 := H.callNew h3 hr;
          have f1 : ∀ k, blk (Value.slice p1 sn c1) = some k → k ≠ b5 ∧ k ≠ b6 ∧ k ≠ b10 ∧ k ≠ r ∧ k < w5.heap.size ∧ w.heap.size ≤ k := (fun k hk => by
            have a1 := hfr k hk
            have a2 := hbin.2.2 k hk
            have a3 := H.lt (.head _)
            have a4 := H.lt (.tail _ (.head _))
            have a5 := H.lt (.tail _ (.tail _ (.head _)))
            have a6 := H.size
            exact ⟨by omega, by omega, by omega, a1.1, a2, by omega⟩);
          have F1 := Lib.hid f1; have BY1 := Lib.hid hbin.2.1; clear H h3 f1 hbin hfr; have HW5 := Lib.hid H2; have H := H2.self; clear H2; have tok6 : True := trivial)
      | (clear tok6; refine st_new rfl (rn_alloc H rfl info_rp) ?_; clear H; intro b12 w6 hb12 H; have tok7 : True := trivial)
      | (clear tok7; refine st_skip rfl (rn_store (v := .pointer (some ⟨r, 0, none⟩)) H rfl rfl rfl (by kernel_rfl) .head (by simp) rfl) ?_; clear H; intro w7 H; have tok8 : True := trivial)
      | (clear tok8; go_at_call 53; refine (hlo.out _).mono ?_; rintro e w8 ⟨rfl, h3⟩; have H2 := H.call0 h3; clear H h3; have H := H2; clear H2; have e12 : w8.cell? ⟨b12, 0, none⟩ = some (.pointer (some ⟨r, 0, none⟩)) := H.cell (.head _) 0; have tok9 : True := trivial)
      | (clear tok9; go_at_call 51; refine (hn3.out w8 r c1 p1 (H.sub1 (.tail _ (.head _))) (SlAt.own BY1.out H (fun k hk hm => (by have := F1.out k hk; simp at hm; omega))) (fun k hk => (F1.out k hk).2.2.2.1)).mono ?_; rintro e w9 ⟨rfl, p4, c4, h3, hb4, hk4⟩; have H2 := Own.callAt (L1 := [_]) H h3; have BY4 := Lib.hid hb4; have F4 := Lib.hid (fun k hk => F1.out k (hk4 k hk)); clear H h3 e12 hb4 hk4; have H := H2; clear H2; have tok10 : True := trivial)
      | (clear tok10; go_at_call 62; refine (hcd.out _).mono ?_; rintro e w10 ⟨rfl, h3⟩; have H2 := H.call0 h3; have BY10 := Lib.hid (SlAt.own0 BY4.out h3); clear H h3 BY4; have H := H2; clear H2; have tok11 : True := trivial)
      | (clear tok11; refine st_skip rfl (rn_storeAll (vs := u8s (List.replicate 32 0)) H rfl rfl rfl (by kernel_rfl) (.tail (.tail .head)) (by kernel_rfl) (oneCell_ints _ _)) ?_; clear H; intro w11 H))
    refine fin_cell2 rfl H rfl (.tail _ (.tail _ (.head _))) rfl rfl (by kernel_rfl) rfl rfl ⟨by rw [hno1.out.1, hno1.out.2]; rfl, ?_⟩
    have hw5 := HW5.out.size
    exact Own.transNew HW5.out H (by simp; omega) (by simp; omega)

end Go.Proofs.Ytfihlmnbonnekaa
