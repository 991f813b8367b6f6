/- chirographlaw1.ShaPieces: the walk. Printed by a program of this work (wip/gen/pieces.py). -/
import Derived.Test.YtilglaacegjdoaaDigE
import Derived.Test.YtilglaacegjdoaaOld
import Derived.Test.YtilglaacegjdoaaAppStr
namespace Go.Proofs.Ytilglaacegjdoaa
open Go.RowKit

theorem OldL.addr {w : World} {p : Option Addr} {n c : Nat} {ls : List (Value × List Int)} (h : OldL w (.slice p n c) ls) (hn : 0 < ls.length) : ∃ b off, p = some ⟨b, off, none⟩ := by
  rcases h.sl with ⟨_, h0, _⟩ | ⟨b, off, cap, hv, _, _⟩
  · omega
  · cases hv; exact ⟨b, off, rfl⟩

theorem OldL.cellAt {w w1 : World} {b off n c : Nat} {ls : List (Value × List Int)} {L : List Ent} (h : OldL w (.slice (some ⟨b, off, none⟩) n c) ls) (ho : Own w w1 L) (hn : ∀ k ∈ L.map (·.1), w.heap.size ≤ k) {i : Nat} {x : Value × List Int} (hx : ls[i]? = some x) :
    w1.cell? ⟨b, off + i * 1, none⟩ = some x.1 := by
  have hi := (List.getElem?_eq_some_iff.1 hx).1
  have h1 : SlAt w1 (.slice (some ⟨b, off, none⟩) n c) ls.length (ls.map (·.1)) := SlAt.own h.sl ho (fun j hj hm => by have := h.lt j hj; have := hn j hm; omega)
  rcases h1 with ⟨_, h0, _⟩ | ⟨b', off', cap, hv, _, hc⟩
  · omega
  · cases hv
    rw [Nat.mul_one]
    exact hc i x.1 (by rw [List.getElem?_map, hx]; rfl)

theorem Buf.callNew {e : TypeId} {k : IntKind} {w0 w w' : World} {L : List Ent} {v : Value} {xs : List Int} {b : Nat} {cs : List Value} {T : TypeId} (h : Buf e k w0 w L v xs) (hu : Own w w' [(b, cs, T)]) (hb : w.heap.size ≤ b) : Buf e k w0 w' ((b, cs, T) :: L) v xs := by
  obtain ⟨Lv, h1, h2, h3⟩ := h
  exact ⟨Lv, h1, (h2.callNew hu hb).perm List.perm_middle.symm, h3⟩

theorem Buf.callAt {e : TypeId} {k : IntKind} {w0 w w' : World} {L1 L2 : List Ent} {v : Value} {xs : List Int} {b : Nat} {cs cs' : List Value} {T T' : TypeId} (h : Buf e k w0 w (L1 ++ (b, cs, T) :: L2) v xs) (hu : Own w w' [(b, cs', T')]) : Buf e k w0 w' (L1 ++ (b, cs', T') :: L2) v xs := by
  obtain ⟨Lv, h1, h2, h3⟩ := h
  refine ⟨Lv, h1, ?_, h3⟩
  rw [← List.append_assoc] at h2 ⊢
  exact h2.callAt hu

theorem size_sl : (Try.prog.info? 22).map (·.size) = some 1 := by kernel_rfl

/-- the pieces up to one, one behind the other -/
def flat (ls : List (Value × List Int)) (i : Nat) : List Int := (ls.take i).flatMap (·.2)

theorem flat_succ {ls : List (Value × List Int)} {i : Nat} {x : Value × List Int} (h : ls[i]? = some x) : flat ls (i + 1) = flat ls i ++ x.2 := by
  obtain ⟨hi, hx⟩ := List.getElem?_eq_some_iff.1 h
  unfold flat
  rw [List.take_succ_eq_append_getElem hi, List.flatMap_append, hx]
  simp

theorem flat_take {ls : List (Value × List Int)} {k n : Nat} (h : k ≤ n) : (flat ls n).take (flat ls k).length = flat ls k := by
  unfold flat
  have : ls.take n = ls.take k ++ (ls.drop k).take (n - k) := by
    rw [← List.take_add]; congr 1; omega
  rw [this, List.flatMap_append]
  exact List.take_left

set_option maxRecDepth 100000 in
set_option maxHeartbeats 4000000 in
theorem shaPieces_row (w : World) (v0 : Value) (ls : List (Value × List Int)) (hO : OldL w v0 ls) (at_ : Int) (_ : IntKind.i64.min ≤ at_) (_ : at_ ≤ IntKind.i64.max) :
    Calls Try.prog 5 #[v0, .int .i64 at_] w fun e w' => e = .returned (.bool true) ∧ Own w w' [] := by
  rename_i hm0 hm1
  clear hm0 hm1
  obtain ⟨n, hn⟩ : ∃ n, n = ls.length := ⟨_, rfl⟩
  have hv : ∃ p c, v0 = .slice p n c := by
    rcases hO.sl with ⟨⟨p, rfl⟩, h0, _⟩ | ⟨b, off, cap, rfl, _, _⟩
    · exact ⟨p, 0, by rw [hn, h0]⟩
    · exact ⟨_, _, by rw [hn]⟩
  obtain ⟨p0, c0, rfl⟩ := hv
  have O := Lib.hid hO
  have hn' := Lib.hid hn
  clear hn hO
  have H := Own.refl w
  by_cases hn20 : n ≤ 20
  · obtain ⟨k, hk0, hk1⟩ := rem_wrap at_ ((n : Int) + 1) (by omega) (by omega)
    have hk := Lib.hid hk0
    have hkn : k ≤ n := by omega
    clear hk0 hk1
    obtain ⟨F, hF⟩ : ∃ F, F = flat ls := ⟨_, rfl⟩
    have hFs : Hid (∀ i x, ls[i]? = some x → F (i + 1) = F i ++ x.2) := fun i x hx => by rw [hF]; exact flat_succ hx
    have hF0 : Hid (F 0 = []) := by rw [hF]; rfl
    have hFt : Hid ((F n).take (F k).length = F k) := by rw [hF]; exact flat_take hkn
    clear hF
    have tok1 : True := trivial
    go_enter Try.func5, Try.ntmps5
    go_wp2_with (clear tok1; go_at_call 14; refine (new_e _).mono ?_; rintro e w2 ⟨d, csd, rfl, hd, hd1, h2⟩; have H2 := H.callNew h2 hd; have hd0 : w.heap.size ≤ d := Nat.le_trans H.size hd; clear H h2 hd; have H := H2; clear H2)
    rw [hk.out]
    have B0 : Buf 5 .u8 w w2 [(d, csd, 48)] (.slice none 0 0) [] := Buf.nil H
    clear H hk
    go_loopw [7, 8, 9, 10] (fun v7 v8 v9 v10 wr => ∃ i p cp csd, i ≤ n ∧ v10 = .int .i64 ((i : Nat) : Int) ∧ v7 = .slice p (F i).length cp ∧ IsDig (F i) csd ∧ (F i).length ≤ 200 * i ∧
        ((i ≤ k ∧ v8 = .pointer none ∧ v9 = .int .i64 0 ∧ Buf 5 .u8 w wr [(d, csd, 48)] v7 (F i)) ∨
         (k < i ∧ ∃ cc csc, v8 = .pointer (some ⟨cc, 0, none⟩) ∧ v9 = .int .i64 ((F k).length : Nat) ∧ w.heap.size ≤ cc ∧ IsDig (F k ++ [99, 111, 112, 121]) csc ∧ Buf 5 .u8 w wr [(cc, csc, 48), (d, csd, 48)] v7 (F i))))
      (fun _ _ _ v10 _ => ((n : Int) + 1 - intOf v10).toNat)
    case atStart => exact ⟨0, none, 0, csd, by omega, rfl, by rw [hF0.out]; rfl, by rw [hF0.out]; exact hd1, by rw [hF0.out]; simp, Or.inl ⟨by omega, rfl, rfl, by rw [hF0.out]; exact B0⟩⟩
    case round =>
      clear B0 hd1 hF0 csd
      obtain ⟨i, p, cp, csd, hi, rfl, rfl, hdg, hlen, hor⟩ := hrel
      rcases hor with ⟨hik, rfl, rfl, B⟩ | ⟨hki, cc, csc, rfl, rfl, hcc, hdc, B⟩
      · by_cases hik2 : i < k
        · have hin : i < n := by omega
          obtain ⟨x, hx⟩ : ∃ x, ls[i]? = some x := ⟨_, List.getElem?_eq_getElem (by have := hn'.out; omega)⟩
          obtain ⟨hxo, ⟨px, cx, hxs⟩, _⟩ := O.out.el i x hx
          have hFx := Lib.hid (hFs.out i x hx)
          obtain ⟨og, oo, hp0⟩ := O.out.addr (by have := hn'.out; omega)
          subst hp0
          have hcell : Hid (∀ w1 L1, Own w w1 L1 → (∀ b ∈ L1.map (·.1), w.heap.size ≤ b) → w1.cell? ⟨og, oo + (i : Int).toNat * 1, none⟩ = some (.slice px x.2.length cx)) := fun w1 L1 h1 h2 => by rw [← hxs]; exact O.out.cellAt h1 h2 (by simpa using hx)
          have hxo' : Hid (∀ w1 L1, Own w w1 L1 → (∀ b ∈ L1.map (·.1), w.heap.size ≤ b) → BytesAt w1 (.slice px x.2.length cx) x.2) := fun w1 L1 h1 h2 => by rw [← hxs]; exact hxo.at h1 h2
          have hxne : Hid (∀ d', w.heap.size ≤ d' → ∀ k', blk (.slice px x.2.length cx) = some k' → k' ≠ d') := fun d' hd' => by rw [← hxs]; exact hxo.ne hd'
          obtain ⟨ys, hys⟩ : ∃ ys, x.2 = ys := ⟨_, rfl⟩
          rw [hys] at hcell hxo' hxne hFx
          clear hxo hxs hx hys
          obtain ⟨m, hm⟩ : ∃ m, m = ys.length := ⟨_, rfl⟩
          rw [← hm] at hcell hxo' hxne
          have hm' := Lib.hid hm
          clear hm
          have hlF := Lib.hid hlen
          have hl4 : Hid ((F i).length ≤ 4000) := by show (F i).length ≤ 4000; omega
          clear hlen
          have tok1 : True := trivial
          have tokA : True := trivial
          by_cases hbig : m ≤ 200
          · obtain ⟨S, hS⟩ : ∃ S, sha (F (i + 1)) = S := ⟨_, rfl⟩
            have lS : Hid (S.length = 32) := hS ▸ length_sha _
            have hS' := Lib.hid hS
            have eS : ∀ w, (Op.equalIn 10000 25 (.agg (u8s S).toArray) (.agg (u8s S).toArray)).run Try.prog w = .ok true w := fun w => by rw [eqHash w S S lS.out lS.out, decide_eq_true rfl]
            have hl3 : Hid ((F (i + 1)).length = (F i).length + m) := by show _ = _; rw [hFx.out, List.length_append, ← hm'.out]
            clear hS
            go_wp2_with (first
              | (refine st_val rfl (rn_idxSl (j := (i : Int)) rfl rfl size_sl rfl rfl (by omega) (by omega)) ?_)
              | (refine st_val rfl (rn_cell (i := oo + (i : Int).toNat * 1) rfl rfl rfl rfl (hcell.out _ _ (B.own0) (by simp; omega))) ?_)
              | (clear tok1; go_at_call 17; refine (write_e _ d (F i) ys csd _ hdg (by have := hl4.out; omega) (by rw [← hm'.out]; omega) (B.sub1 (.head _)) (hxo'.out _ _ (B.own0) (by simp; omega)) (hxne.out d hd0)).mono ?_; rintro e w3 ⟨rfl, csd1, hdg1, h3⟩; have B2 := B.call1 h3; clear B h3 hdg; rw [← hFx.out] at hdg1; have B := B2; clear B2; have tok2 : True := trivial)
              | (clear tokA; refine st_app (ys := ys) rfl B elem_u8 rfl rfl rfl rfl (hxo'.out _ _ (B.own0) (by simp; omega)) (by have := hl4.out; rw [← hm'.out]; omega) (by have := hl4.out; rw [← hm'.out]; omega) ?_; clear B; intro p6 c6 w6 B; rw [← hm'.out, ← hl3.out]; rw [← hm'.out, ← hl3.out, ← hFx.out] at B; have tok3 : True := trivial)
              | (clear tok2; go_at_call 16; refine (sum_e _ d (F (i + 1)) csd1 hdg1 (by have := hl4.out; rw [hl3.out]; omega) (B.sub1 (.head _))).mono ?_; rintro e w7 ⟨rfl, h3⟩; rw [hS'.out]; have B2 := B.call0 h3; clear B h3; have B := B2; clear B2; have tok4 : True := trivial)
              | (clear tok4; go_at_call 10; refine (shaSum_any _ _ (F (i + 1)) B.bytesAt B.lt (by have := hl4.out; rw [hl3.out]; omega)).mono ?_; rintro e w8 ⟨rfl, h3⟩; rw [hS'.out]; have B2 := B.call0 h3; clear B h3; have B := B2; clear B2))
            exact ⟨⟨i + 1, _, _, csd1, by omega, by go_num, rfl, hdg1, by rw [hl3.out]; have := hlF.out; omega, Or.inl ⟨by omega, rfl, rfl, B⟩⟩, by simp [intOf]; omega⟩
          · have hbig2 : 200 < m := by omega
            go_wp2_with (first
              | (refine st_val rfl (rn_idxSl (j := (i : Int)) rfl rfl size_sl rfl rfl (by omega) (by omega)) ?_)
              | (refine st_val rfl (rn_cell (i := oo + (i : Int).toNat * 1) rfl rfl rfl rfl (hcell.out _ _ (B.own0) (by simp; omega))) ?_)
              | (go_at_call 9; refine (told_any _).mono ?_; rintro e w3 ⟨rfl, h3⟩; have B2 := B.call0 h3; clear B h3; have B := B2; clear B2))
            have HF := Lib.hid (B.own0.end0 (by simp; omega))
            go_ret
            exact ⟨rfl, HF.out⟩
        · obtain rfl : i = k := by omega
          clear hik hik2
          by_cases hin : i < n
          · skip
            obtain ⟨x, hx⟩ : ∃ x, ls[i]? = some x := ⟨_, List.getElem?_eq_getElem (by have := hn'.out; omega)⟩
            obtain ⟨hxo, ⟨px, cx, hxs⟩, _⟩ := O.out.el i x hx
            have hFx := Lib.hid (hFs.out i x hx)
            obtain ⟨og, oo, hp0⟩ := O.out.addr (by have := hn'.out; omega)
            subst hp0
            have hcell : Hid (∀ w1 L1, Own w w1 L1 → (∀ b ∈ L1.map (·.1), w.heap.size ≤ b) → w1.cell? ⟨og, oo + (i : Int).toNat * 1, none⟩ = some (.slice px x.2.length cx)) := fun w1 L1 h1 h2 => by rw [← hxs]; exact O.out.cellAt h1 h2 (by simpa using hx)
            have hxo' : Hid (∀ w1 L1, Own w w1 L1 → (∀ b ∈ L1.map (·.1), w.heap.size ≤ b) → BytesAt w1 (.slice px x.2.length cx) x.2) := fun w1 L1 h1 h2 => by rw [← hxs]; exact hxo.at h1 h2
            have hxne : Hid (∀ d', w.heap.size ≤ d' → ∀ k', blk (.slice px x.2.length cx) = some k' → k' ≠ d') := fun d' hd' => by rw [← hxs]; exact hxo.ne hd'
            obtain ⟨ys, hys⟩ : ∃ ys, x.2 = ys := ⟨_, rfl⟩
            rw [hys] at hcell hxo' hxne hFx
            clear hxo hxs hx hys
            obtain ⟨m, hm⟩ : ∃ m, m = ys.length := ⟨_, rfl⟩
            rw [← hm] at hcell hxo' hxne
            have hm' := Lib.hid hm
            clear hm
            have hlF := Lib.hid hlen
            have hl4 : Hid ((F i).length ≤ 4000) := by show (F i).length ≤ 4000; omega
            clear hlen
            obtain ⟨Sc, hSc⟩ : ∃ S, sha (F i) = S := ⟨_, rfl⟩
            have lSc : Hid (Sc.length = 32) := hSc ▸ length_sha _
            have hSc' := Lib.hid hSc
            have eSc : ∀ w, (Op.equalIn 10000 25 (.agg (u8s Sc).toArray) (.agg (u8s Sc).toArray)).run Try.prog w = .ok true w := fun w => by rw [eqHash w Sc Sc lSc.out lSc.out, decide_eq_true rfl]
            clear hSc
            have tokC1 : True := trivial
            have tokA : True := trivial
            by_cases hbig : m ≤ 200
            · obtain ⟨S, hS⟩ : ∃ S, sha (F (i + 1)) = S := ⟨_, rfl⟩
              have lS : Hid (S.length = 32) := hS ▸ length_sha _
              have hS' := Lib.hid hS
              have eS : ∀ w, (Op.equalIn 10000 25 (.agg (u8s S).toArray) (.agg (u8s S).toArray)).run Try.prog w = .ok true w := fun w => by rw [eqHash w S S lS.out lS.out, decide_eq_true rfl]
              have hl3 : Hid ((F (i + 1)).length = (F i).length + m) := by show _ = _; rw [hFx.out, List.length_append, ← hm'.out]
              clear hS
              go_wp2_with (first
                | (clear tokC1; go_at_call 15; refine (copy_e _ d (F i) csd hdg (B.sub1 (.head _))).mono ?_; rintro e w3 ⟨cc, rfl, hc, h3⟩; have B2 := B.callNew h3 hc; have hcc : w.heap.size ≤ cc := Nat.le_trans B.own0.size hc; clear B h3 hc; have B := B2; clear B2; have tokC2 : True := trivial)
                | (clear tokC2; go_at_call 16; refine (sum_e _ cc (F i) csd hdg (by have := hlF.out; omega) (B.sub1 (.head _))).mono ?_; rintro e w4 ⟨rfl, h3⟩; rw [hSc'.out]; have B2 := B.call0 h3; clear B h3; have B := B2; clear B2; have tokC3 : True := trivial)
                | (clear tokC3; go_at_call 16; refine (sum_e _ d (F i) csd hdg (by have := hlF.out; omega) (B.sub1 (.tail _ (.head _)))).mono ?_; rintro e w5 ⟨rfl, h3⟩; rw [hSc'.out]; have B2 := B.call0 h3; clear B h3; have B := B2; clear B2; have tokC4 : True := trivial)
                | (clear tokC4; obtain ⟨Lv, hs, H, hf⟩ := B; refine st_new rfl (rn_buildSlice (e := 5) (cs := u8s [99, 111, 112, 121]) H rfl (fun w' => by kernel_rfl)) ?_; clear H; intro b w6 hb H; have tokC5 : True := trivial)
                | (clear tokC5; refine st_conv rfl H hb rfl rfl rfl rfl rfl ?_; intro w7 hby hlt H5; have hne := H.lit_ne (n := 4) (d := cc) (by simp); clear H hb; have B : Buf 5 .u8 w w7 [(cc, csd, 48), (d, csd, 48)] (.slice p (F i).length cp) (F i) := ⟨Lv, hs, H5, hf⟩; clear H5 hs hf; have tokC6 : True := trivial)
                | (clear tokC6; go_at_call 17; refine (write_e _ cc (F i) [99, 111, 112, 121] csd _ hdg (by have := hlF.out; omega) (by simp) (B.sub1 (.head _)) hby hne).mono ?_; rintro e w8 ⟨rfl, csc, hdc, h3⟩; have B2 := B.call1 h3; clear B h3 hby hlt hne; have B := B2; clear B2; have tok1 : True := trivial)
                | (refine st_val rfl (rn_idxSl (j := (i : Int)) rfl rfl size_sl rfl rfl (by omega) (by omega)) ?_)
                | (refine st_val rfl (rn_cell (i := oo + (i : Int).toNat * 1) rfl rfl rfl rfl (hcell.out _ _ (B.own0) (by simp; omega))) ?_)
                | (clear tok1; go_at_call 17; refine (write_e _ d (F i) ys csd _ hdg (by have := hl4.out; omega) (by rw [← hm'.out]; omega) (B.sub1 (.tail _ (.head _))) (hxo'.out _ _ (B.own0) (by simp; omega)) (hxne.out d hd0)).mono ?_; rintro e w3 ⟨rfl, csd1, hdg1, h3⟩; have B2 := B.callAt (L1 := [(cc, csc, 48)]) h3; clear B h3 hdg; rw [← hFx.out] at hdg1; have B := B2; clear B2; have tok2 : True := trivial)
                | (clear tokA; refine st_app (ys := ys) rfl B elem_u8 rfl rfl rfl rfl (hxo'.out _ _ (B.own0) (by simp; omega)) (by have := hl4.out; rw [← hm'.out]; omega) (by have := hl4.out; rw [← hm'.out]; omega) ?_; clear B; intro p6 c6 w6 B; rw [← hm'.out, ← hl3.out]; rw [← hm'.out, ← hl3.out, ← hFx.out] at B; have tok3 : True := trivial)
                | (clear tok2; go_at_call 16; refine (sum_e _ d (F (i + 1)) csd1 hdg1 (by have := hl4.out; rw [hl3.out]; omega) (B.sub1 (.tail _ (.head _)))).mono ?_; rintro e w7 ⟨rfl, h3⟩; rw [hS'.out]; have B2 := B.call0 h3; clear B h3; have B := B2; clear B2; have tok4 : True := trivial)
                | (clear tok4; go_at_call 10; refine (shaSum_any _ _ (F (i + 1)) B.bytesAt B.lt (by have := hl4.out; rw [hl3.out]; omega)).mono ?_; rintro e w8 ⟨rfl, h3⟩; rw [hS'.out]; have B2 := B.call0 h3; clear B h3; have B := B2; clear B2))
              exact ⟨⟨i + 1, _, _, csd1, by omega, by go_num, rfl, hdg1, by rw [hl3.out]; have := hlF.out; omega, Or.inr ⟨by omega, cc, csc, rfl, rfl, hcc, hdc, B⟩⟩, by simp [intOf]; omega⟩
            · have hbig2 : 200 < m := by omega
              go_wp2_with (first
                | (clear tokC1; go_at_call 15; refine (copy_e _ d (F i) csd hdg (B.sub1 (.head _))).mono ?_; rintro e w3 ⟨cc, rfl, hc, h3⟩; have B2 := B.callNew h3 hc; have hcc : w.heap.size ≤ cc := Nat.le_trans B.own0.size hc; clear B h3 hc; have B := B2; clear B2; have tokC2 : True := trivial)
                | (clear tokC2; go_at_call 16; refine (sum_e _ cc (F i) csd hdg (by have := hlF.out; omega) (B.sub1 (.head _))).mono ?_; rintro e w4 ⟨rfl, h3⟩; rw [hSc'.out]; have B2 := B.call0 h3; clear B h3; have B := B2; clear B2; have tokC3 : True := trivial)
                | (clear tokC3; go_at_call 16; refine (sum_e _ d (F i) csd hdg (by have := hlF.out; omega) (B.sub1 (.tail _ (.head _)))).mono ?_; rintro e w5 ⟨rfl, h3⟩; rw [hSc'.out]; have B2 := B.call0 h3; clear B h3; have B := B2; clear B2; have tokC4 : True := trivial)
                | (clear tokC4; obtain ⟨Lv, hs, H, hf⟩ := B; refine st_new rfl (rn_buildSlice (e := 5) (cs := u8s [99, 111, 112, 121]) H rfl (fun w' => by kernel_rfl)) ?_; clear H; intro b w6 hb H; have tokC5 : True := trivial)
                | (clear tokC5; refine st_conv rfl H hb rfl rfl rfl rfl rfl ?_; intro w7 hby hlt H5; have hne := H.lit_ne (n := 4) (d := cc) (by simp); clear H hb; have B : Buf 5 .u8 w w7 [(cc, csd, 48), (d, csd, 48)] (.slice p (F i).length cp) (F i) := ⟨Lv, hs, H5, hf⟩; clear H5 hs hf; have tokC6 : True := trivial)
                | (clear tokC6; go_at_call 17; refine (write_e _ cc (F i) [99, 111, 112, 121] csd _ hdg (by have := hlF.out; omega) (by simp) (B.sub1 (.head _)) hby hne).mono ?_; rintro e w8 ⟨rfl, csc, hdc, h3⟩; have B2 := B.call1 h3; clear B h3 hby hlt hne; have B := B2; clear B2)
                | (refine st_val rfl (rn_idxSl (j := (i : Int)) rfl rfl size_sl rfl rfl (by omega) (by omega)) ?_)
                | (refine st_val rfl (rn_cell (i := oo + (i : Int).toNat * 1) rfl rfl rfl rfl (hcell.out _ _ (B.own0) (by simp; omega))) ?_)
                | (go_at_call 9; refine (told_any _).mono ?_; rintro e w3 ⟨rfl, h3⟩; have B2 := B.call0 h3; clear B h3; have B := B2; clear B2))
              have HF := Lib.hid (B.own0.end0 (by simp; omega))
              go_ret
              exact ⟨rfl, HF.out⟩
          · obtain rfl : i = n := by omega
            clear hin
            have hlF := Lib.hid hlen
            have hl4 : Hid ((F i).length ≤ 4000) := by show (F i).length ≤ 4000; omega
            clear hlen
            obtain ⟨Sc, hSc⟩ : ∃ S, sha (F i) = S := ⟨_, rfl⟩
            have lSc : Hid (Sc.length = 32) := hSc ▸ length_sha _
            have hSc' := Lib.hid hSc
            have eSc : ∀ w, (Op.equalIn 10000 25 (.agg (u8s Sc).toArray) (.agg (u8s Sc).toArray)).run Try.prog w = .ok true w := fun w => by rw [eqHash w Sc Sc lSc.out lSc.out, decide_eq_true rfl]
            clear hSc
            have tokC1 : True := trivial
            go_wp2_with (first
              | (clear tokC1; go_at_call 15; refine (copy_e _ d (F i) csd hdg (B.sub1 (.head _))).mono ?_; rintro e w3 ⟨cc, rfl, hc, h3⟩; have B2 := B.callNew h3 hc; have hcc : w.heap.size ≤ cc := Nat.le_trans B.own0.size hc; clear B h3 hc; have B := B2; clear B2; have tokC2 : True := trivial)
              | (clear tokC2; go_at_call 16; refine (sum_e _ cc (F i) csd hdg (by have := hlF.out; omega) (B.sub1 (.head _))).mono ?_; rintro e w4 ⟨rfl, h3⟩; rw [hSc'.out]; have B2 := B.call0 h3; clear B h3; have B := B2; clear B2; have tokC3 : True := trivial)
              | (clear tokC3; go_at_call 16; refine (sum_e _ d (F i) csd hdg (by have := hlF.out; omega) (B.sub1 (.tail _ (.head _)))).mono ?_; rintro e w5 ⟨rfl, h3⟩; rw [hSc'.out]; have B2 := B.call0 h3; clear B h3; have B := B2; clear B2; have tokC4 : True := trivial)
              | (clear tokC4; obtain ⟨Lv, hs, H, hf⟩ := B; refine st_new rfl (rn_buildSlice (e := 5) (cs := u8s [99, 111, 112, 121]) H rfl (fun w' => by kernel_rfl)) ?_; clear H; intro b w6 hb H; have tokC5 : True := trivial)
              | (clear tokC5; refine st_conv rfl H hb rfl rfl rfl rfl rfl ?_; intro w7 hby hlt H5; have hne := H.lit_ne (n := 4) (d := cc) (by simp); clear H hb; have B : Buf 5 .u8 w w7 [(cc, csd, 48), (d, csd, 48)] (.slice p (F i).length cp) (F i) := ⟨Lv, hs, H5, hf⟩; clear H5 hs hf; have tokC6 : True := trivial)
              | (clear tokC6; go_at_call 17; refine (write_e _ cc (F i) [99, 111, 112, 121] csd _ hdg (by have := hlF.out; omega) (by simp) (B.sub1 (.head _)) hby hne).mono ?_; rintro e w8 ⟨rfl, csc, hdc, h3⟩; have B2 := B.call1 h3; clear B h3 hby hlt hne; have B := B2; clear B2))
            have hle : Hid ((F i).length ≤ (F i).length) := by
              show _ ≤ _
              have := congrArg List.length hFt.out
              rw [List.length_take] at this
              omega
            have hmid : Hid (((F i).drop 0).take ((F i).length - 0) = F i) := hFt.out
            have hlc : Hid ((F i ++ [99, 111, 112, 121]).length ≤ 140737488351232) := by
              show _ ≤ _
              have := hl4.out
              have := hle.out
              rw [List.length_append]; simp; omega
            have hld : Hid ((F i).length ≤ 140737488351232) := by show _ ≤ _; have := hl4.out; omega
            obtain ⟨SA, hSA⟩ : ∃ S, sha (F i) = S := ⟨_, rfl⟩
            obtain ⟨SB, hSB⟩ : ∃ S, sha (F i ++ [99, 111, 112, 121]) = S := ⟨_, rfl⟩
            have lA : Hid (SA.length = 32) := hSA ▸ length_sha _
            have lB : Hid (SB.length = 32) := hSB ▸ length_sha _
            have eA : ∀ w, (Op.equalIn 10000 25 (.agg (u8s SA).toArray) (.agg (u8s SA).toArray)).run Try.prog w = .ok true w := fun w => by rw [eqHash w SA SA lA.out lA.out, decide_eq_true rfl]
            have eB : ∀ w, (Op.equalIn 10000 25 (.agg (u8s SB).toArray) (.agg (u8s SB).toArray)).run Try.prog w = .ok true w := fun w => by rw [eqHash w SB SB lB.out lB.out, decide_eq_true rfl]
            have hend : Hid (∀ w', Own w8 w' [] → Own w w' []) := fun w' h => (B.call0 h).own0.end0 (by simp; omega)
            have cd : Hid (∀ w', Own w8 w' [] → Calls Try.prog 16 #[.pointer (some ⟨d, 0, none⟩)] w' fun e w'' => e = .returned (.agg (u8s SA).toArray) ∧ Own w' w'' []) := fun w' h => hSA ▸ sum_e w' d (F i) csd hdg hld.out ((B.call0 h).sub1 (by simp))
            have cx : Hid (∀ w', Own w8 w' [] → Calls Try.prog 16 #[.pointer (some ⟨cc, 0, none⟩)] w' fun e w'' => e = .returned (.agg (u8s SB).toArray) ∧ Own w' w'' []) := fun w' h => hSB ▸ sum_e w' cc _ csc hdc hlc.out ((B.call0 h).sub1 (by simp))
            have ca : Hid (∀ w' v, Buf 5 .u8 w8 w' [] v (F i ++ [99, 111, 112, 121]) → Calls Try.prog 10 #[v] w' fun e w'' => e = .returned (.agg (u8s SB).toArray) ∧ Own w' w'' []) := fun w' v hB => hSB ▸ shaSum_any w' v _ hB.bytesAt hB.lt hlc.out
            have O9 : Hid (Old w8 (.slice p (F i).length cp) (F i)) := ⟨B.bytesAt, B.lt⟩
            have hcp : Hid (numsOf ⟨#[99, 111, 112, 121]⟩ = [99, 111, 112, 121]) := by show _ = _; kernel_rfl
            clear B hSA hSB hdg hdc hFs hFt hlc hld hn' O
            refine region_app 20 (by kernel_rfl) (by kernel_rfl) (by kernel_rfl) [.val (.bool true), .val (.bool true), .val (.pointer (some ⟨d, 0, none⟩)), .val (.agg (u8s SA).toArray), .val (.pointer (some ⟨d, 0, none⟩)), .val (.agg (u8s SA).toArray), .val (.bool true), .val (.bool true), .val (.bool true), .val (.pointer (some ⟨cc, 0, none⟩)), .val (.agg (u8s SB).toArray),
              .rel (fun w' v => Buf 5 .u8 w8 w' [] v []), .val (.slice p (F i).length cp), .val (.int .i64 ((F i).length : Nat)), .rel (OldIs w8 .u8 (F i)), .app ([] : List Int).length (fun w' v => Buf 5 .u8 w8 w' [] v ([] ++ F i)), .app ([] ++ F i).length (fun w' v => Buf 5 .u8 w8 w' [] v ([] ++ F i ++ [99, 111, 112, 121])), .val (.agg (u8s SB).toArray), .val (.bool true), .val (.bool true)] rfl ?_ ?_
            · simp only [gAll, gRow, Sq.pres, or_true, true_and, and_true]
              refine ⟨⟨Or.inr (Or.inr fun _ _ _ hg hb => hb.gr (Nat.le_refl _) hg), Or.inr (Or.inr fun _ _ _ _ h => h), Or.inl trivial, Or.inr (Or.inl (by kernel_rfl))⟩, Or.inr (Or.inr fun _ _ _ hg hb => hb.gr (Nat.zero_le _) hg), Or.inr (Or.inr fun _ _ _ _ h => h), Or.inr (Or.inr fun _ _ _ hg hb => hb.gr (Nat.le_refl _) hg), Or.inl trivial⟩
            have tok1 : True := trivial
            try go_frame
            repeat (first
              | (clear tok1; refine sq_callN (args := #[]) rfl rfl (by simp) Try.func9 (by kernel_rfl) (by kernel_rfl) (fun w' _ _ => told_any w') ?_; go_frame; have tok2 : True := trivial)
              | (clear tok2; refine sq_callN (args := #[.pointer (some ⟨d, 0, none⟩)]) rfl rfl (by simp [Act.eval]) Try.func16 (by kernel_rfl) (by kernel_rfl) (fun w' hw' _ => cd.out w' hw') ?_; go_frame; have tok3 : True := trivial)
              | (clear tok3; refine sq_callN (args := #[.pointer (some ⟨d, 0, none⟩)]) rfl rfl (by simp [Act.eval]) Try.func16 (by kernel_rfl) (by kernel_rfl) (fun w' hw' _ => cd.out w' hw') ?_; go_frame; have tok4 : True := trivial)
              | (clear tok4; refine sq_callN (args := #[.pointer (some ⟨cc, 0, none⟩)]) rfl rfl (by simp [Act.eval]) Try.func16 (by kernel_rfl) (by kernel_rfl) (fun w' hw' _ => cx.out w' hw') ?_; go_frame; have tok5 : True := trivial)
              | (clear tok5; refine sq_litB (xs := []) (k := .u8) (e := 5) rfl rfl rfl (by simp) (fun w' => by kernel_rfl) ?_; intro v91; go_frame; have tok6 : True := trivial)
              | (clear tok6; refine sq_old rfl (sub_old rfl rfl size_u8 rfl O9.out rfl (l := 0) (h' := (F i).length) (by exact .no _) (by exact .is rfl rfl rfl) (by omega) hle.out hmid.out) ?_; intro v94; go_frame; have tok7 : True := trivial)
              | (clear tok7; refine sq_app (Buf.mono) rfl (fun w' hw' hF => append_both (v := v91) (xv := v94) (hF.1.2 _ rfl (List.mem_of_elem_eq_true (by kernel_rfl))) elem_u8 rfl rfl rfl rfl ((hF.2 _ rfl (List.mem_of_elem_eq_true (by kernel_rfl))).at hw') (by have := hl4.out; have := hle.out; simp only [List.length_nil]; omega) (by have := hl4.out; have := hle.out; simp only [List.length_nil]; omega)) ?_; intro v95; go_frame; have tok8 : True := trivial)
              | (clear tok8; refine sq_app (Buf.mono) rfl (fun w' hw' hF => hcp.out ▸ append_str (v := v95) (b := ⟨#[99, 111, 112, 121]⟩) (hF.2 _ rfl (List.mem_of_elem_eq_true (by kernel_rfl))) elem_u8 rfl rfl rfl rfl rfl (Nat.le_of_ble_eq_true rfl) (by have := hl4.out; have := hle.out; simp only [List.nil_append]; show _ + 4 ≤ _; omega)) ?_; intro v96; go_frame; have tok9 : True := trivial)
              | (clear tok9; refine sq_callN (v := .agg (u8s SB).toArray) (args := #[v96]) rfl rfl (by simp [Act.eval]) Try.func10 (by kernel_rfl) (by kernel_rfl) (fun w' hw' hF => ca.out w' v96 (hF.2 _ rfl (List.mem_of_elem_eq_true (by kernel_rfl)))) ?_; go_frame)
              | (refine sq_val (fun w' hw' hF => ?_) ⟨_, rfl, Nat.le_of_ble_eq_true rfl⟩ ?_
                 · go_big_quiet_step (fail)
                   exact rfl
                 go_frame))
            refine sq_nil ?_
            intro w' hw' _
            have H' := Lib.hid (hend.out w' hw')
            clear cd cx ca hend O9
            simp only [List.drop_succ_cons, List.drop_zero]
            go_wp2_with fail
            go_ret
            exact ⟨rfl, H'.out⟩
      · by_cases hin : i < n
        · skip
          obtain ⟨x, hx⟩ : ∃ x, ls[i]? = some x := ⟨_, List.getElem?_eq_getElem (by have := hn'.out; omega)⟩
          obtain ⟨hxo, ⟨px, cx, hxs⟩, _⟩ := O.out.el i x hx
          have hFx := Lib.hid (hFs.out i x hx)
          obtain ⟨og, oo, hp0⟩ := O.out.addr (by have := hn'.out; omega)
          subst hp0
          have hcell : Hid (∀ w1 L1, Own w w1 L1 → (∀ b ∈ L1.map (·.1), w.heap.size ≤ b) → w1.cell? ⟨og, oo + (i : Int).toNat * 1, none⟩ = some (.slice px x.2.length cx)) := fun w1 L1 h1 h2 => by rw [← hxs]; exact O.out.cellAt h1 h2 (by simpa using hx)
          have hxo' : Hid (∀ w1 L1, Own w w1 L1 → (∀ b ∈ L1.map (·.1), w.heap.size ≤ b) → BytesAt w1 (.slice px x.2.length cx) x.2) := fun w1 L1 h1 h2 => by rw [← hxs]; exact hxo.at h1 h2
          have hxne : Hid (∀ d', w.heap.size ≤ d' → ∀ k', blk (.slice px x.2.length cx) = some k' → k' ≠ d') := fun d' hd' => by rw [← hxs]; exact hxo.ne hd'
          obtain ⟨ys, hys⟩ : ∃ ys, x.2 = ys := ⟨_, rfl⟩
          rw [hys] at hcell hxo' hxne hFx
          clear hxo hxs hx hys
          obtain ⟨m, hm⟩ : ∃ m, m = ys.length := ⟨_, rfl⟩
          rw [← hm] at hcell hxo' hxne
          have hm' := Lib.hid hm
          clear hm
          have hlF := Lib.hid hlen
          have hl4 : Hid ((F i).length ≤ 4000) := by show (F i).length ≤ 4000; omega
          clear hlen
          have tok1 : True := trivial
          have tokA : True := trivial
          by_cases hbig : m ≤ 200
          · obtain ⟨S, hS⟩ : ∃ S, sha (F (i + 1)) = S := ⟨_, rfl⟩
            have lS : Hid (S.length = 32) := hS ▸ length_sha _
            have hS' := Lib.hid hS
            have eS : ∀ w, (Op.equalIn 10000 25 (.agg (u8s S).toArray) (.agg (u8s S).toArray)).run Try.prog w = .ok true w := fun w => by rw [eqHash w S S lS.out lS.out, decide_eq_true rfl]
            have hl3 : Hid ((F (i + 1)).length = (F i).length + m) := by show _ = _; rw [hFx.out, List.length_append, ← hm'.out]
            clear hS
            go_wp2_with (first
              | (refine st_val rfl (rn_idxSl (j := (i : Int)) rfl rfl size_sl rfl rfl (by omega) (by omega)) ?_)
              | (refine st_val rfl (rn_cell (i := oo + (i : Int).toNat * 1) rfl rfl rfl rfl (hcell.out _ _ (B.own0) (by simp; omega))) ?_)
              | (clear tok1; go_at_call 17; refine (write_e _ d (F i) ys csd _ hdg (by have := hl4.out; omega) (by rw [← hm'.out]; omega) (B.sub1 (.tail _ (.head _))) (hxo'.out _ _ (B.own0) (by simp; omega)) (hxne.out d hd0)).mono ?_; rintro e w3 ⟨rfl, csd1, hdg1, h3⟩; have B2 := B.callAt (L1 := [(cc, csc, 48)]) h3; clear B h3 hdg; rw [← hFx.out] at hdg1; have B := B2; clear B2; have tok2 : True := trivial)
              | (clear tokA; refine st_app (ys := ys) rfl B elem_u8 rfl rfl rfl rfl (hxo'.out _ _ (B.own0) (by simp; omega)) (by have := hl4.out; rw [← hm'.out]; omega) (by have := hl4.out; rw [← hm'.out]; omega) ?_; clear B; intro p6 c6 w6 B; rw [← hm'.out, ← hl3.out]; rw [← hm'.out, ← hl3.out, ← hFx.out] at B; have tok3 : True := trivial)
              | (clear tok2; go_at_call 16; refine (sum_e _ d (F (i + 1)) csd1 hdg1 (by have := hl4.out; rw [hl3.out]; omega) (B.sub1 (.tail _ (.head _)))).mono ?_; rintro e w7 ⟨rfl, h3⟩; rw [hS'.out]; have B2 := B.call0 h3; clear B h3; have B := B2; clear B2; have tok4 : True := trivial)
              | (clear tok4; go_at_call 10; refine (shaSum_any _ _ (F (i + 1)) B.bytesAt B.lt (by have := hl4.out; rw [hl3.out]; omega)).mono ?_; rintro e w8 ⟨rfl, h3⟩; rw [hS'.out]; have B2 := B.call0 h3; clear B h3; have B := B2; clear B2))
            exact ⟨⟨i + 1, _, _, csd1, by omega, by go_num, rfl, hdg1, by rw [hl3.out]; have := hlF.out; omega, Or.inr ⟨by omega, cc, csc, rfl, rfl, hcc, hdc, B⟩⟩, by simp [intOf]; omega⟩
          · have hbig2 : 200 < m := by omega
            go_wp2_with (first
              | (refine st_val rfl (rn_idxSl (j := (i : Int)) rfl rfl size_sl rfl rfl (by omega) (by omega)) ?_)
              | (refine st_val rfl (rn_cell (i := oo + (i : Int).toNat * 1) rfl rfl rfl rfl (hcell.out _ _ (B.own0) (by simp; omega))) ?_)
              | (go_at_call 9; refine (told_any _).mono ?_; rintro e w3 ⟨rfl, h3⟩; have B2 := B.call0 h3; clear B h3; have B := B2; clear B2))
            have HF := Lib.hid (B.own0.end0 (by simp; omega))
            go_ret
            exact ⟨rfl, HF.out⟩
        · obtain rfl : i = n := by omega
          clear hin
          have hlF := Lib.hid hlen
          have hl4 : Hid ((F i).length ≤ 4000) := by show (F i).length ≤ 4000; omega
          clear hlen
          go_wp2_with (fail)
          have hle : Hid ((F k).length ≤ (F i).length) := by
            show _ ≤ _
            have := congrArg List.length hFt.out
            rw [List.length_take] at this
            omega
          have hmid : Hid (((F i).drop 0).take ((F k).length - 0) = F k) := hFt.out
          have hlc : Hid ((F k ++ [99, 111, 112, 121]).length ≤ 140737488351232) := by
            show _ ≤ _
            have := hl4.out
            have := hle.out
            rw [List.length_append]; simp; omega
          have hld : Hid ((F i).length ≤ 140737488351232) := by show _ ≤ _; have := hl4.out; omega
          obtain ⟨SA, hSA⟩ : ∃ S, sha (F i) = S := ⟨_, rfl⟩
          obtain ⟨SB, hSB⟩ : ∃ S, sha (F k ++ [99, 111, 112, 121]) = S := ⟨_, rfl⟩
          have lA : Hid (SA.length = 32) := hSA ▸ length_sha _
          have lB : Hid (SB.length = 32) := hSB ▸ length_sha _
          have eA : ∀ w, (Op.equalIn 10000 25 (.agg (u8s SA).toArray) (.agg (u8s SA).toArray)).run Try.prog w = .ok true w := fun w => by rw [eqHash w SA SA lA.out lA.out, decide_eq_true rfl]
          have eB : ∀ w, (Op.equalIn 10000 25 (.agg (u8s SB).toArray) (.agg (u8s SB).toArray)).run Try.prog w = .ok true w := fun w => by rw [eqHash w SB SB lB.out lB.out, decide_eq_true rfl]
          have hend : Hid (∀ w', Own wr w' [] → Own w w' []) := fun w' h => (B.call0 h).own0.end0 (by simp; omega)
          have cd : Hid (∀ w', Own wr w' [] → Calls Try.prog 16 #[.pointer (some ⟨d, 0, none⟩)] w' fun e w'' => e = .returned (.agg (u8s SA).toArray) ∧ Own w' w'' []) := fun w' h => hSA ▸ sum_e w' d (F i) csd hdg hld.out ((B.call0 h).sub1 (by simp))
          have cx : Hid (∀ w', Own wr w' [] → Calls Try.prog 16 #[.pointer (some ⟨cc, 0, none⟩)] w' fun e w'' => e = .returned (.agg (u8s SB).toArray) ∧ Own w' w'' []) := fun w' h => hSB ▸ sum_e w' cc _ csc hdc hlc.out ((B.call0 h).sub1 (by simp))
          have ca : Hid (∀ w' v, Buf 5 .u8 wr w' [] v (F k ++ [99, 111, 112, 121]) → Calls Try.prog 10 #[v] w' fun e w'' => e = .returned (.agg (u8s SB).toArray) ∧ Own w' w'' []) := fun w' v hB => hSB ▸ shaSum_any w' v _ hB.bytesAt hB.lt hlc.out
          have O9 : Hid (Old wr (.slice p (F i).length cp) (F i)) := ⟨B.bytesAt, B.lt⟩
          have hcp : Hid (numsOf ⟨#[99, 111, 112, 121]⟩ = [99, 111, 112, 121]) := by show _ = _; kernel_rfl
          clear B hSA hSB hdg hdc hFs hFt hlc hld hn' O
          refine region_app 20 (by kernel_rfl) (by kernel_rfl) (by kernel_rfl) [.val (.bool true), .val (.bool true), .val (.pointer (some ⟨d, 0, none⟩)), .val (.agg (u8s SA).toArray), .val (.pointer (some ⟨d, 0, none⟩)), .val (.agg (u8s SA).toArray), .val (.bool true), .val (.bool true), .val (.bool true), .val (.pointer (some ⟨cc, 0, none⟩)), .val (.agg (u8s SB).toArray),
            .rel (fun w' v => Buf 5 .u8 wr w' [] v []), .val (.slice p (F i).length cp), .val (.int .i64 ((F k).length : Nat)), .rel (OldIs wr .u8 (F k)), .app ([] : List Int).length (fun w' v => Buf 5 .u8 wr w' [] v ([] ++ F k)), .app ([] ++ F k).length (fun w' v => Buf 5 .u8 wr w' [] v ([] ++ F k ++ [99, 111, 112, 121])), .val (.agg (u8s SB).toArray), .val (.bool true), .val (.bool true)] rfl ?_ ?_
          · simp only [gAll, gRow, Sq.pres, or_true, true_and, and_true]
            refine ⟨⟨Or.inr (Or.inr fun _ _ _ hg hb => hb.gr (Nat.le_refl _) hg), Or.inr (Or.inr fun _ _ _ _ h => h), Or.inl trivial, Or.inr (Or.inl (by kernel_rfl))⟩, Or.inr (Or.inr fun _ _ _ hg hb => hb.gr (Nat.zero_le _) hg), Or.inr (Or.inr fun _ _ _ _ h => h), Or.inr (Or.inr fun _ _ _ hg hb => hb.gr (Nat.le_refl _) hg), Or.inl trivial⟩
          have tok1 : True := trivial
          try go_frame
          repeat (first
            | (clear tok1; refine sq_callN (args := #[]) rfl rfl (by simp) Try.func9 (by kernel_rfl) (by kernel_rfl) (fun w' _ _ => told_any w') ?_; go_frame; have tok2 : True := trivial)
            | (clear tok2; refine sq_callN (args := #[.pointer (some ⟨d, 0, none⟩)]) rfl rfl (by simp [Act.eval]) Try.func16 (by kernel_rfl) (by kernel_rfl) (fun w' hw' _ => cd.out w' hw') ?_; go_frame; have tok3 : True := trivial)
            | (clear tok3; refine sq_callN (args := #[.pointer (some ⟨d, 0, none⟩)]) rfl rfl (by simp [Act.eval]) Try.func16 (by kernel_rfl) (by kernel_rfl) (fun w' hw' _ => cd.out w' hw') ?_; go_frame; have tok4 : True := trivial)
            | (clear tok4; refine sq_callN (args := #[.pointer (some ⟨cc, 0, none⟩)]) rfl rfl (by simp [Act.eval]) Try.func16 (by kernel_rfl) (by kernel_rfl) (fun w' hw' _ => cx.out w' hw') ?_; go_frame; have tok5 : True := trivial)
            | (clear tok5; refine sq_litB (xs := []) (k := .u8) (e := 5) rfl rfl rfl (by simp) (fun w' => by kernel_rfl) ?_; intro v91; go_frame; have tok6 : True := trivial)
            | (clear tok6; refine sq_old rfl (sub_old rfl rfl size_u8 rfl O9.out rfl (l := 0) (h' := (F k).length) (by exact .no _) (by exact .is rfl rfl rfl) (by omega) hle.out hmid.out) ?_; intro v94; go_frame; have tok7 : True := trivial)
            | (clear tok7; refine sq_app (Buf.mono) rfl (fun w' hw' hF => append_both (v := v91) (xv := v94) (hF.1.2 _ rfl (List.mem_of_elem_eq_true (by kernel_rfl))) elem_u8 rfl rfl rfl rfl ((hF.2 _ rfl (List.mem_of_elem_eq_true (by kernel_rfl))).at hw') (by have := hl4.out; have := hle.out; simp only [List.length_nil]; omega) (by have := hl4.out; have := hle.out; simp only [List.length_nil]; omega)) ?_; intro v95; go_frame; have tok8 : True := trivial)
            | (clear tok8; refine sq_app (Buf.mono) rfl (fun w' hw' hF => hcp.out ▸ append_str (v := v95) (b := ⟨#[99, 111, 112, 121]⟩) (hF.2 _ rfl (List.mem_of_elem_eq_true (by kernel_rfl))) elem_u8 rfl rfl rfl rfl rfl (Nat.le_of_ble_eq_true rfl) (by have := hl4.out; have := hle.out; simp only [List.nil_append]; show _ + 4 ≤ _; omega)) ?_; intro v96; go_frame; have tok9 : True := trivial)
            | (clear tok9; refine sq_callN (v := .agg (u8s SB).toArray) (args := #[v96]) rfl rfl (by simp [Act.eval]) Try.func10 (by kernel_rfl) (by kernel_rfl) (fun w' hw' hF => ca.out w' v96 (hF.2 _ rfl (List.mem_of_elem_eq_true (by kernel_rfl)))) ?_; go_frame)
            | (refine sq_val (fun w' hw' hF => ?_) ⟨_, rfl, Nat.le_of_ble_eq_true rfl⟩ ?_
               · go_big_quiet_step (fail)
                 exact rfl
               go_frame))
          refine sq_nil ?_
          intro w' hw' _
          have H' := Lib.hid (hend.out w' hw')
          clear cd cx ca hend O9
          simp only [List.drop_succ_cons, List.drop_zero]
          go_wp2_with fail
          go_ret
          exact ⟨rfl, H'.out⟩
  · have hbig : 20 < n := by omega
    have tok1 : True := trivial
    go_enter Try.func5, Try.ntmps5
    go_wp2_with (first
      | (clear tok1; go_at_call 14; refine (new_e _).mono ?_; rintro e w2 ⟨d, csd, rfl, hd, hd1, h2⟩; have H2 := H.callNew h2 hd; have hd0 : w.heap.size ≤ d := Nat.le_trans H.size hd; clear H h2 hd; have H := H2; clear H2; have tok2 : True := trivial)
      | (clear tok2; go_at_call 9; refine (told_any _).mono ?_; rintro e w3 ⟨rfl, h3⟩; have H2 := H.call0 h3; clear H h3; have H := H2; clear H2))
    have H' := Lib.hid (H.end0 (by simpa using hd0))
    go_ret
    exact ⟨rfl, H'.out⟩
end Go.Proofs.Ytilglaacegjdoaa
