/- ots: the document's along. -/
import Derived.Test.YtfihlmnbonnekaaRefO
namespace Go.Proofs.Ytfihlmnbonnekaa
open Go.RowKit

set_option maxRecDepth 100000 in
set_option maxHeartbeats 4000000 in
theorem refAlong_any (w : World) (id x : List Int) (h16 : id.length = 16) (h32 : x.length = 32) (hid : IsBytes id) (hx : IsBytes x) (q n f t : Nat) (hq : q < 64) (hn : n < 65536) (hft : f ≤ t) (ht : t ≤ 256) :
    Calls Try.prog 75 #[.agg (u8s id).toArray, .int .i64 q, .int .i64 n, .int .i64 f, .int .i64 t, .agg (u8s x).toArray] w fun e w' => e = .returned (.agg (u8s (stepsC (pre22 id q n) f x (t - f))).toArray) ∧ Own w w' [] := by
  have H := Own.refl w
  have h16' := Lib.hid h16
  have h32' := Lib.hid h32
  have hx' := Lib.hid hx
  obtain ⟨N, hN⟩ : ∃ N, N = numB n 2 := ⟨_, rfl⟩
  have hnum : Hid (∀ w', Calls Try.prog 18 #[.int .u64 n, .int .i64 2] w' fun e w'' => ∃ r, e = .returned r ∧ BIn N w'' r ∧ Own w' w'' []) := fun w' => by rw [hN]; exact refNum_any w' n 2 (by omega) (by omega)
  have hNl : Hid (N.length = 2) := by show _ = _; rw [hN, length_numB]
  have hfr : Hid (∀ w', Calls Try.prog 73 #[.agg (u8s id).toArray, .int .i64 q] w' fun e w'' => ∃ r, e = .returned r ∧ Buf 5 .u8 w' w'' [] r (frontq id q)) := fun w' => front_any w' id h16 q hq
  have hFN : Hid (frontq id q ++ N = pre22 id q n) := by show _ = _; rw [hN]; rfl
  have hpl := Lib.hid (length_pre22 h16 q n)
  have hpb : Hid (IsBytes (pre22 id q n)) := by show IsBytes _; rw [pre22_eq]; exact isBytes_app (isBytes_frontq hid q) (isBytes_numB _ _)
  have hFl : Hid ((frontq id q).length = 20) := length_frontq h16 q
  obtain ⟨F, hF⟩ : ∃ F, F = frontq id q := ⟨_, rfl⟩
  rw [← hF] at hfr hFN hFl
  obtain ⟨pre, hpre⟩ : ∃ p, p = pre22 id q n := ⟨_, rfl⟩
  rw [← hpre] at hFN hpl hpb ⊢
  have hsz := Lib.hid (size_idL h16)
  clear hN hF hpre hid hx h16 h32
  go_enter Try.func75, Try.ntmps75
  have tok1 : True := trivial
  go_wp2_with (first
    | (clear tok1; refine st_new rfl (rn_box (cs := u8s id) H rfl rfl rfl) ?_; clear H; intro b6 w1 hb6 H; have tok2 : True := trivial)
    | (clear tok2; refine st_new rfl (rn_box (cs := u8s x) H rfl rfl rfl) ?_; clear H; intro b11 w2 hb11 H; have tok3 : True := trivial)
    | (clear tok3; refine st_new rfl (rn_alloc H rfl info_hash) ?_; clear H; intro b12 w3 hb12 H; have tok4 : True := trivial)
    | (clear tok4; refine st_val rfl (rn_loadAll (cs := u8s id) H rfl rfl (.tail _ (.tail _ (.head _))) rfl rfl hsz.out) ?_; have tok5 : True := trivial)
    | (clear tok5; go_at_call 73; refine (hfr.out _).mono ?_; rintro e w4 ⟨r, rfl, hB⟩; have B := H.callBuf hB; clear H hB; obtain ⟨p4, c4, e4⟩ := B.slice; subst e4; rw [hFl.out] at B ⊢; have tok6 : True := trivial)
    | (clear tok6; go_at_call 18; refine (hnum.out _).mono ?_; rintro e w5 ⟨r, rfl, hN5, h3⟩; have B2 := B.call0 h3; clear B h3; have B := B2; clear B2; obtain ⟨pn, cn, en⟩ := hN5.1; subst en; rw [hNl.out] at hN5 ⊢; have N5 := Lib.hid hN5.2.1; clear hN5; have tok7 : True := trivial)
    | (clear tok7; refine st_app (ys := N) rfl B elem_u8 rfl rfl rfl rfl (by have h := N5.out; rw [BytesAt, hNl.out] at h; rw [hNl.out]; exact h) (by rw [hFl.out, hNl.out]; simp) (by rw [hFl.out, hNl.out]; simp) ?_; clear B N5; intro p9 c9 w9 B; rw [hFN.out] at B; have e22 : F.length + N.length = 22 := (by rw [hFl.out, hNl.out]); rw [e22] at B ⊢; clear e22))
  have hp : Hid (∀ w' L, Own w9 w' L → (∀ k ∈ L.map (·.1), k = b11 ∨ w9.heap.size ≤ k) → BIn pre w' (.slice p9 22 c9)) := fun w' L h hn => ⟨⟨_, _, by rw [hpl.out]⟩, SlAt.own B.bytesAt h (fun k hk hm => by
      rcases hn k hm with h1 | h1
      · exact B.ne hk (by subst h1; simp)
      · have := B.lt k hk; omega), fun k hk => Nat.lt_of_lt_of_le (B.lt k hk) h.size⟩
  have H9 := Lib.hid B.own0
  have hb11' := Lib.hid (show b11 < w9.heap.size from B.own0.lt (.tail _ (.head _)))
  have H := H9.out.sub1 (.tail _ (.head _))
  clear B
  go_loopw [14] (fun v14 wr => ∃ i : Nat, f + i ≤ t ∧ v14 = .int .i64 ((f + i : Nat) : Int) ∧ Own w9 wr [(b11, u8s (stepsC pre f x i), 28)]) (fun v14 _ => ((t : Nat) - intOf v14).toNat)
  case atStart => exact ⟨0, by omega, rfl, H⟩
  case round =>
    clear H
    obtain ⟨i, hi, rfl, H⟩ := hrel
    have hlx := Lib.hid (length_stepsC (pre := pre) (f := f) h32'.out i)
    have hbx := Lib.hid (isBytes_stepsC (pre := pre) (f := f) hx'.out i)
    have hst : Hid (stepsC pre f x (i + 1) = sha (pre ++ ((f + i : Nat) : Int) :: stepsC pre f x i)) := rfl
    have hfin : Hid (f + i = t → t - f = i) := fun h => by omega
    obtain ⟨k, hk⟩ : ∃ k, k = f + i := ⟨_, rfl⟩
    rw [← hk] at hst hi hfin ⊢
    obtain ⟨xi, hxi⟩ : ∃ y, y = stepsC pre f x i := ⟨_, rfl⟩
    rw [← hxi] at H hlx hst hbx
    have hxi' := Lib.hid hxi
    have hk' := Lib.hid hk
    clear hxi hk
    by_cases hin : k < t
    · obtain ⟨Z, hZ⟩ : ∃ Z, Z = pre ++ (k : Int) :: xi := ⟨_, rfl⟩
      rw [← hZ] at hst
      have hZ2 : Z = [pre, [(k : Int)], xi].flatten := by rw [hZ]; simp
      have hZl : Hid (Z.length ≤ 55) := by show _ ≤ _; rw [hZ2]; have := hpl.out; have := hlx.out; simp; omega
      have hcat : Hid (∀ w' v, LitL [pre, [(k : Int)], xi] w' v → Calls Try.prog 40 #[v] w' fun e w'' => ∃ r, e = .returned r ∧ BIn Z w'' r ∧ Own w' w'' []) := fun w' v h => by
        have h3 := catL_any w' v _ h (by rw [← hZ2]; exact Nat.le_trans hZl.out (by decide)) (by simp)
        rwa [← hZ2] at h3
      have hsum : Hid (∀ w' v, BIn Z w' v → Calls Try.prog 39 #[v] w' fun e w'' => e = .returned (.agg (u8s (sha Z)).toArray) ∧ Own w' w'' []) := fun w' v h => refSum_any w' v Z h.2.1 h.2.2 (Nat.le_trans hZl.out (by decide))
      clear hZ hZ2
      have hk256 : k < 256 := by omega
      have tok1 : True := trivial
      go_wp2_with (first
        | (clear tok1; refine st_newG rfl (rn_buildSlice (e := 5) (cs := u8s [(k : Int)]) (Own.refl wr) rfl (fun w' => by kernel_rfl)) ?_; intro b31 w2 hb31 M; have g31 := Nat.le_trans H.size hb31; have H2 := H.callNew M hb31; clear M H; have H := H2; clear H2; have tok2 : True := trivial)
        | (refine st_val rfl (rn_sliceAll rfl rfl size_u8 rfl (by omega)) ?_)
        | (clear tok2; refine st_newG rfl (rn_buildSlice (e := 33) (cs := [.slice p9 22 c9, .slice (some ⟨b31, 0, none⟩) 1 1, .slice (some ⟨b11, 0, none⟩) 32 32]) (Own.refl w2) rfl (fun w' => by kernel_rfl)) ?_; intro b33 w5 hb33 M; have g33 := Nat.le_trans H.size hb33; have H2 := H.callNew M hb33; clear H; have H := H2; clear H2;
            have L5 : LitL [pre, [(k : Int)], xi] w5 (.slice (some ⟨b33, 0, none⟩) 3 3) := ⟨[(.slice p9 22 c9, pre), (.slice (some ⟨b31, 0, none⟩) 1 1, [(k : Int)]), (.slice (some ⟨b11, 0, none⟩) 32 32, xi)], (OldL.ofLit M (.head _) rfl rfl (by
              intro y hy
              simp only [List.mem_cons, List.not_mem_nil, or_false] at hy
              rcases hy with rfl | rfl | rfl
              · exact ⟨hp.out _ _ H (by simp; omega), hpb.out⟩
              · exact ⟨⟨⟨_, _, rfl⟩, Own.litM H (.tail _ (.head _)) rfl, fun j hj => by obtain rfl := (blk_some hj).1; exact H.lt (.tail _ (.head _))⟩, isBytes_cons (by omega) (by omega) isBytes_nil⟩
              · exact ⟨⟨⟨_, _, by rw [hlx.out]⟩, Own.litM H (.tail _ (.tail _ (.head _))) hlx.out.symm, fun j hj => by obtain rfl := (blk_some hj).1; exact H.lt (.tail _ (.tail _ (.head _)))⟩, hbx.out⟩)), rfl⟩; clear M; have tok3 : True := trivial)
        | (clear tok3; go_at_call 40; refine (hcat.out _ _ L5).mono ?_; rintro e w6 ⟨r, rfl, hR, h3⟩; have H2 := H.call0 h3; clear H h3 L5; have H := H2; clear H2; have R6 := Lib.hid hR; clear hR; have tok4 : True := trivial)
        | (clear tok4; go_at_call 39; refine (hsum.out _ _ R6.out).mono ?_; rintro e w7 ⟨rfl, h3⟩; have H2 := H.call0 h3; clear H h3 R6; have H := H2; clear H2; have tok5 : True := trivial)
        | (clear tok5; refine st_skip rfl (rn_storeAll (vs := u8s (sha Z)) H rfl rfl rfl (by kernel_rfl) (.tail (.tail .head)) (by rw [length_ints, length_ints, hlx.out]; rfl) (oneCell_ints _ _)) ?_; clear H; intro w8 H; rw [← hst.out] at H))
      have H2 := Own.drop (L1 := [_, _]) H (by simp; omega)
      exact ⟨⟨i + 1, by have := hk'.out; omega, by rw [← Nat.add_assoc, ← hk'.out]; go_num, H2⟩, by simp [intOf]; omega⟩
    · obtain rfl : k = t := by omega
      have H2 := Own.callAt (L1 := [_]) H9.out H
      clear H H9
      have H := H2
      clear H2
      go_wp2_with (first
        | (refine st_val rfl (rn_loadAll (cs := u8s xi) H rfl rfl (.tail _ (.head _)) rfl rfl (size_hashL hlx.out)) ?_)
        | (refine st_skip rfl (rn_storeAll (vs := u8s xi) H rfl rfl rfl (size_hashL hlx.out) .head (by rw [length_ints, length_ints, hlx.out]; rfl) (oneCell_ints _ _)) ?_; clear H; intro w6 H))
      refine fin_cell rfl H rfl (.head _) rfl rfl (size_hashL hlx.out) rfl ⟨?_, ?_⟩
      · rw [hxi'.out, hfin.out (by trivial)]
      · exact H.end0 (by simp; omega)

end Go.Proofs.Ytfihlmnbonnekaa
