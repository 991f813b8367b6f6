/- ots: the document's front, message, ends, code. And what stands on it. No condition. -/
import Derived.Test.YtfihlmnbonnekaaGreatChnA
import Derived.Test.YtfihlmnbonnekaaGreatCat
import Derived.Test.YtfihlmnbonnekaaGreatRef4
namespace Go.Proofs.YtfihlmnbonnekaaGreat
open Go.RowKit
set_option maxHeartbeats 32000000
theorem size_id : (Tryz.prog.info? 22).map (·.size) = some 16 := by kernel_rfl
theorem size_idL {xs : List Int} (h : xs.length = 16) : (Tryz.prog.info? 22).map (·.size) = some (u8s xs).length := by rw [length_ints, h]; exact size_id
theorem OldL.ofLit {w0 w : World} {L : List Ent} {b n : Nat} {vs : List Value} {T : TypeId} {ls : List (Value × List Int)} (H : Own w0 w L) (hm : (b, vs, T) ∈ L) (hvs : vs = ls.map (·.1)) (hn : n = ls.length)
 (hel : ∀ x ∈ ls, BIn x.2 w x.1 ∧ IsBytes x.2) : OldL w (.slice (some ⟨b, 0, none⟩) n n) ls := by
 subst hn
 refine ⟨Or.inr ⟨b, 0, ls.length, rfl, ⟨Nat.le_refl _, fun h => ?_⟩, fun i x hx => ?_⟩, fun k hk => ?_, fun i x hx => ?_⟩
 · exact List.eq_nil_of_length_eq_zero (by simpa using h)
 · rw [H.cell hm, hvs, Nat.zero_add]; exact hx
 · obtain rfl := (blk_some hk).1; exact H.lt hm
 · obtain ⟨h1, h2⟩ := hel x (List.mem_of_getElem? hx)
   exact ⟨⟨h1.2.1, h1.2.2⟩, h1.1, h2⟩
theorem flatL_all (ls : List (Value × List Int)) : flatL ls ls.length = ls.flatMap (·.2) := by unfold flatL; rw [List.take_of_length_le (Nat.le_refl _)]
theorem Old.bin {w : World} {v : Value} {bs : List Int} (h : Old w v bs) : BIn bs w v := ⟨h.shape, h.1, h.2⟩
theorem BIn.old' {w : World} {v : Value} {bs : List Int} (h : BIn bs w v) : Old w v bs := ⟨h.2.1, h.2.2⟩
theorem isBytes_cons {a : Int} {xs : List Int} (h0 : 0 ≤ a) (h1 : a < 256) (h : IsBytes xs) : IsBytes (a :: xs) := by
 intro i hi
 cases i with
 | zero => exact ⟨h0, h1⟩
 | succ i => exact h i (by simpa using hi)
theorem isBytes_nil : IsBytes [] := fun i hi => by simp at hi
theorem isBytes_app {xs ys : List Int} (h1 : IsBytes xs) (h2 : IsBytes ys) : IsBytes (xs ++ ys) := by
 intro i hi
 rcases Nat.lt_or_ge i xs.length with h | h
 · rw [List.getElem?_append_left h]; exact h1 i h
 · rw [List.getElem?_append_right h]; exact h2 _ (by simp at hi; omega)
theorem isBytes_numB (x : Int) (m : Nat) : IsBytes (numB x m) := by
 intro i hi
 have : (numB x m)[i]?.getD 0 = x / 2 ^ (8 * (m - 1 - i)) % 256 := by
  rw [length_numB] at hi
  simp [numB, hi]
 rw [this]
 omega
theorem catSum_len {ls : List (Value × List Int)} {n : Nat} (h : (ls.flatMap (·.2)).length ≤ n) : (flatL ls ls.length).length ≤ n := by rw [flatL_all]; exact h
def frontq (id : List Int) (q : Nat) : List Int := id ++ numB q 4
theorem length_frontq {id : List Int} (h : id.length = 16) (q : Nat) : (frontq id q).length = 20 := by simp [frontq, h, length_numB]
theorem isBytes_frontq {id : List Int} (h : IsBytes id) (q : Nat) : IsBytes (frontq id q) := isBytes_app h (isBytes_numB _ _)
theorem pre22_eq (id : List Int) (q i : Nat) : pre22 id q i = frontq id q ++ numB i 2 := rfl
set_option maxRecDepth 100000 in
theorem front_any (w : World) (id : List Int) (h16 : id.length = 16) (q : Nat) (hq : q < 64) :
 Calls Tryz.prog 63 #[.agg (u8s id).toArray, .int .i64 q] w fun e w' => ∃ r, e = .returned r ∧ Buf 5 .u8 w w' [] r (frontq id q) := by
 have H := Own.refl w
 have h16' := Hh h16
 have hl20 := Hh (length_frontq h16 q)
 have hfq : Hid (id ++ numB q 4 = frontq id q) := rfl
 have hn4 := Hh (length_numB (q : Int) 4)
 clear h16
 go_enter Tryz.func63, Tryz.ntmps63
 have z1 := tt
 go_wp2_with (first
  | (clear z1; refine st_new rfl (rn_box (cs := u8s id) H rfl rfl rfl) ?_; clear H; intro b3 w1 hb3 H; have z2 := tt)
  | (clear z2; refine st_new rfl (rn_buildSlice (e := 5) (cs := u8s []) H rfl (fun w' => by kernel_rfl)) ?_; clear H; intro b w4 hb4 H; have B : Buf 5 .u8 w w4 [(b3, u8s id, 22)] (.slice (some ⟨b, 0, none⟩) 0 0) [] := Buf.lit (xs := []) H hb4 (by decide); clear H hb4; have z3 := tt)
  | (refine st_val rfl (rn_sliceAll rfl rfl size_u8 rfl (by omega)) ?_)
  | (clear z3; refine st_app (ys := id) rfl B elem_u8 rfl rfl rfl rfl (Own.lit B.own0 h16'.out.symm) (by rw [h16'.out]; simp) (by rw [h16'.out]; simp) ?_; clear B; intro p6 c6 w6 B; have e16 : ([] : List Int).length + id.length = 16 := (by rw [h16'.out]; rfl); rw [e16] at B ⊢; clear e16; rw [List.nil_append] at B; have B2 := B.pop hb3; clear B; have B := B2; clear B2; have z4 := tt)
  | (clear z4; go_at_call 42; refine (refNum_any _ (q : Int) 4 (by omega) (by omega)).mono ?_; rintro e w7 ⟨r, rfl, hN, h3⟩; replace B := B.call0 h3; clear h3; obtain ⟨pn, cn, en⟩ := hN.1; subst en; rw [hn4.out] at hN ⊢; have hN' := Hh hN.2.1; clear hN; have z5 := tt)
  | (clear z5; refine st_app (ys := numB q 4) rfl B elem_u8 rfl rfl rfl rfl (by have h := hN'.out; rw [BytesAt, hn4.out] at h; rw [hn4.out]; exact h) (by rw [h16'.out, hn4.out]; simp) (by rw [h16'.out, hn4.out]; simp) ?_; clear B; intro p8 c8 w8 B; rw [hfq.out] at B))
 have h1 := Hh B
 clear B
 go_ret
 exact ⟨_, rfl, h1.out⟩
set_option maxRecDepth 100000 in
theorem refCode_1 (w : World) : Calls Tryz.prog 43 #[.int .i64 1] w fun e w' => e = .returned (.int .u64 1) ∧ Own w w' [] := by
 have H' := Hh (Own.refl w)
 go_enter Tryz.func43, Tryz.ntmps43
 go_wp2_with fail
 go_ret
 exact ⟨rfl, H'.out⟩
set_option maxRecDepth 100000 in
theorem refCode_2 (w : World) : Calls Tryz.prog 43 #[.int .i64 2] w fun e w' => e = .returned (.int .u64 2) ∧ Own w w' [] := by
 have H' := Hh (Own.refl w)
 go_enter Tryz.func43, Tryz.ntmps43
 go_wp2_with fail
 go_ret
 exact ⟨rfl, H'.out⟩
set_option maxRecDepth 100000 in
theorem refCode_4 (w : World) : Calls Tryz.prog 43 #[.int .i64 4] w fun e w' => e = .returned (.int .u64 3) ∧ Own w w' [] := by
 have H' := Hh (Own.refl w)
 go_enter Tryz.func43, Tryz.ntmps43
 go_wp2_with fail
 go_ret
 exact ⟨rfl, H'.out⟩
set_option maxRecDepth 100000 in
theorem refCode_8 (w : World) : Calls Tryz.prog 43 #[.int .i64 8] w fun e w' => e = .returned (.int .u64 4) ∧ Own w w' [] := by
 have H' := Hh (Own.refl w)
 go_enter Tryz.func43, Tryz.ntmps43
 go_wp2_with fail
 go_ret
 exact ⟨rfl, H'.out⟩
def cdN (k : Nat) : Int := if k = 1 then 1 else if k = 2 then 2 else if k = 4 then 3 else 4
theorem refCode_any (w : World) (k : Nat) (hk : k = 1 ∨ k = 2 ∨ k = 4 ∨ k = 8) : Calls Tryz.prog 43 #[.int .i64 k] w fun e w' => e = .returned (.int .u64 (cdN k)) ∧ Own w w' [] := by
 rcases hk with rfl | rfl | rfl | rfl
 · exact refCode_1 w
 · exact refCode_2 w
 · exact refCode_4 w
 · exact refCode_8 w
theorem refChains_k (w : World) (k : Nat) (hk : k = 1 ∨ k = 2 ∨ k = 4 ∨ k = 8) : Calls Tryz.prog 54 #[.int .i64 k] w fun e w' => e = .returned (.int .i64 (chN k)) ∧ Own w w' [] := by
 rcases hk with rfl | rfl | rfl | rfl <;> exact refChains_any w _
theorem chN_le (k : Nat) : 34 ≤ chN k ∧ chN k ≤ 265 := by unfold chN; repeat (first | omega | split)
set_option maxRecDepth 100000 in
theorem ends_any (w : World) (id : List Int) (h16 : id.length = 16) (hid : IsBytes id) (q : Nat) (hq : q < 64) (lv : Value) (lb : List Int) (hl : Old w lv lb) (hlb : IsBytes lb) (hln : lb.length ≤ 100000) :
 Calls Tryz.prog 66 #[.agg (u8s id).toArray, .int .i64 q, lv] w fun e w' => e = .returned (.agg (u8s (sha (frontq id q ++ ([128, 128] ++ lb)))).toArray) ∧ Own w w' [] := by
 have H := Own.refl w
 obtain ⟨pl, cl, rfl⟩ := hl.shape
 have hl' := Hh hl
 have hlb' := Hh hlb
 have hln' := Hh hln
 clear hl hlb hln
 obtain ⟨ln, hlnn⟩ : ∃ n, n = lb.length := ⟨_, rfl⟩
 rw [← hlnn] at hl' ⊢
 have hlnn' := Hh hlnn
 clear hlnn
 have h16' := Hh h16
 have hfr : Hid (∀ w', Calls Tryz.prog 63 #[.agg (u8s id).toArray, .int .i64 q] w' fun e w'' => ∃ p c, e = .returned (.slice p 20 c) ∧ BIn (frontq id q) w'' (.slice p 20 c) ∧ Own w' w'' []) := fun w' => (front_any w' id h16 q hq).mono fun e w'' ⟨r, h1, h2⟩ => by
  obtain ⟨p, c, h3⟩ := h2.slice
  rw [length_frontq h16] at h3
  subst h3
  exact ⟨p, c, h1, h2.bin, h2.own0⟩
 have hfb := Hh (isBytes_frontq hid q)
 obtain ⟨F, hF⟩ : ∃ F, F = frontq id q := ⟨_, rfl⟩
 rw [← hF] at hfr hfb ⊢
 have hFl : Hid (F.length = 20) := by show _ = _; rw [hF]; exact length_frontq h16 q
 have hsz := Hh (size_idL h16)
 obtain ⟨Z, hZ⟩ : ∃ Z, Z = F ++ ([128, 128] ++ lb) := ⟨_, rfl⟩
 rw [← hZ]
 have hZ' := Hh hZ
 have hZl : Hid (Z.length ≤ 300000) := by show _ ≤ _; rw [hZ]; have e0 := hFl.out; have e1 := hln'.out; simp; omega
 clear hF h16 hid hZ
 go_enter Tryz.func66, Tryz.ntmps66
 have z1 := tt
 go_wp2_with (first
  | (clear z1; refine st_new rfl (rn_box (cs := u8s id) H rfl rfl rfl) ?_; clear H; intro b4 w1 hb4 H; have z2 := tt)
  | (clear z2; refine st_new rfl (rn_alloc H rfl info_hash) ?_; clear H; intro b8 w2 hb8 H; have z3 := tt)
  | (clear z3; refine st_val rfl (rn_loadAll (cs := u8s id) H rfl rfl (.tail _ (.head _)) rfl rfl hsz.out) ?_; have z4 := tt)
  | (clear z4; go_at_call 63; refine (hfr.out _).mono ?_; rintro e w3 ⟨p3, c3, rfl, hF3, h3⟩; replace H := H.call0 h3; clear h3; have F3 := Hh hF3; clear hF3; have z5 := tt)
  | (clear z5; refine st_newG rfl (rn_buildSlice (e := 5) (cs := u8s [128, 128]) (Own.refl w3) rfl (fun w' => by kernel_rfl)) ?_; intro b12 w4 hb12 M; have g12 := Nat.le_trans H.size hb12; have H2 := H.callNew M hb12; have F4 := Hh ((BIn.mono _) _ _ _ (M.end0 (by simpa using hb12)) F3.out); clear M H F3; have H := H2; clear H2; have z6 := tt)
  | (clear z6; refine st_newG rfl (rn_buildSlice (e := 27) (cs := [.slice p3 20 c3, .slice (some ⟨b12, 0, none⟩) 2 2, .slice pl ln cl]) (Own.refl w4) rfl (fun w' => by kernel_rfl)) ?_; intro b15 w5 hb15 M; have g15 := Nat.le_trans H.size hb15; have N5 := M.end0 (by simpa using hb15); have H2 := H.callNew M hb15; clear H; have H := H2; clear H2;
      have L5 : OldL w5 (.slice (some ⟨b15, 0, none⟩) 3 3) [(.slice p3 20 c3, F), (.slice (some ⟨b12, 0, none⟩) 2 2, [128, 128]), (.slice pl ln cl, lb)] := (OldL.ofLit M (.head _) rfl rfl (by
       intro x hx
       simp only [List.mem_cons, List.not_mem_nil, or_false] at hx
       rcases hx with rfl | rfl | rfl
       · exact ⟨(BIn.mono _) _ _ _ N5 F4.out, hfb.out⟩
       · exact ⟨⟨⟨_, _, rfl⟩, Own.litM H (.tail _ (.head _)) rfl, fun k hk => by obtain rfl := (blk_some hk).1; exact H.lt (.tail _ (.head _))⟩, isBytes_cons (by omega) (by omega) (isBytes_cons (by omega) (by omega) isBytes_nil)⟩
       · exact ⟨(hl'.out.mv H (by simp; omega)).bin, hlb'.out⟩
       )); clear M N5; have z7 := tt)
  | (clear z7; go_at_call 41; refine (cat_any _ _ _ L5 (catSum_len (by have e0 := hFl.out; have e1 := hln'.out; simp; omega)) (by simp)).mono ?_; rintro e w6 ⟨r, rfl, hR, h3⟩; have H2 := H.call0 h3; clear H h3 L5; have H := H2; clear H2; rw [flatL_all] at hR; simp only [List.flatMap_cons, List.flatMap_nil, List.append_nil] at hR; rw [← hZ'.out] at hR; have R6 := Hh hR; clear hR; have z8 := tt)
  | (clear z8; go_at_call 62; refine (refSum_any _ _ _ R6.out.2.1 R6.out.2.2 (Nat.le_trans hZl.out (by decide))).mono ?_; rintro e w7 ⟨rfl, h3⟩; have H2 := H.call0 h3; clear H h3 R6; have H := H2; clear H2; have z9 := tt)
  | (clear z9; refine st_skip rfl (rn_storeAll (vs := u8s (sha Z)) H rfl rfl rfl (by kernel_rfl) (.tail (.tail .head)) (by kernel_rfl) (oneCell_ints _ _)) ?_; clear H; intro w8 H))
 refine fin_cell rfl H rfl (.tail _ (.tail _ (.head _))) rfl rfl (by kernel_rfl) rfl ⟨rfl, ?_⟩
 exact H.end0 (by simp; omega)
set_option maxRecDepth 100000 in
theorem message_any (w : World) (id : List Int) (h16 : id.length = 16) (hid : IsBytes id) (q : Nat) (hq : q < 64) (cv mv : Value) (cb mb : List Int) (hc : Old w cv cb) (hcb : IsBytes cb) (hcn : cb.length ≤ 100000) (hm : Old w mv mb) (hmb : IsBytes mb) (hmn : mb.length ≤ 100000) :
 Calls Tryz.prog 78 #[.agg (u8s id).toArray, .int .i64 q, cv, mv] w fun e w' => e = .returned (.agg (u8s (sha (frontq id q ++ ([129, 129] ++ (cb ++ mb))))).toArray) ∧ Own w w' [] := by
 have H := Own.refl w
 obtain ⟨pc, cc, rfl⟩ := hc.shape
 obtain ⟨pm, cm, rfl⟩ := hm.shape
 have hc' := Hh hc
 have hcb' := Hh hcb
 have hcn' := Hh hcn
 have hm' := Hh hm
 have hmb' := Hh hmb
 have hmn' := Hh hmn
 clear hc hcb hcn hm hmb hmn
 obtain ⟨cn, hcnn⟩ : ∃ n, n = cb.length := ⟨_, rfl⟩
 rw [← hcnn] at hc' ⊢
 have hcnn' := Hh hcnn
 clear hcnn
 obtain ⟨mn, hmnn⟩ : ∃ n, n = mb.length := ⟨_, rfl⟩
 rw [← hmnn] at hm' ⊢
 have hmnn' := Hh hmnn
 clear hmnn
 have h16' := Hh h16
 have hfr : Hid (∀ w', Calls Tryz.prog 63 #[.agg (u8s id).toArray, .int .i64 q] w' fun e w'' => ∃ p c, e = .returned (.slice p 20 c) ∧ BIn (frontq id q) w'' (.slice p 20 c) ∧ Own w' w'' []) := fun w' => (front_any w' id h16 q hq).mono fun e w'' ⟨r, h1, h2⟩ => by
  obtain ⟨p, c, h3⟩ := h2.slice
  rw [length_frontq h16] at h3
  subst h3
  exact ⟨p, c, h1, h2.bin, h2.own0⟩
 have hfb := Hh (isBytes_frontq hid q)
 obtain ⟨F, hF⟩ : ∃ F, F = frontq id q := ⟨_, rfl⟩
 rw [← hF] at hfr hfb ⊢
 have hFl : Hid (F.length = 20) := by show _ = _; rw [hF]; exact length_frontq h16 q
 have hsz := Hh (size_idL h16)
 obtain ⟨Z, hZ⟩ : ∃ Z, Z = F ++ ([129, 129] ++ (cb ++ mb)) := ⟨_, rfl⟩
 rw [← hZ]
 have hZ' := Hh hZ
 have hZl : Hid (Z.length ≤ 300000) := by show _ ≤ _; rw [hZ]; have e0 := hFl.out; have e1 := hcn'.out; have e2 := hmn'.out; simp; omega
 clear hF h16 hid hZ
 go_enter Tryz.func78, Tryz.ntmps78
 have z1 := tt
 go_wp2_with (first
  | (clear z1; refine st_new rfl (rn_box (cs := u8s id) H rfl rfl rfl) ?_; clear H; intro b4 w1 hb4 H; have z2 := tt)
  | (clear z2; refine st_new rfl (rn_alloc H rfl info_hash) ?_; clear H; intro b8 w2 hb8 H; have z3 := tt)
  | (clear z3; refine st_val rfl (rn_loadAll (cs := u8s id) H rfl rfl (.tail _ (.head _)) rfl rfl hsz.out) ?_; have z4 := tt)
  | (clear z4; go_at_call 63; refine (hfr.out _).mono ?_; rintro e w3 ⟨p3, c3, rfl, hF3, h3⟩; replace H := H.call0 h3; clear h3; have F3 := Hh hF3; clear hF3; have z5 := tt)
  | (clear z5; refine st_newG rfl (rn_buildSlice (e := 5) (cs := u8s [129, 129]) (Own.refl w3) rfl (fun w' => by kernel_rfl)) ?_; intro b12 w4 hb12 M; have g12 := Nat.le_trans H.size hb12; have H2 := H.callNew M hb12; have F4 := Hh ((BIn.mono _) _ _ _ (M.end0 (by simpa using hb12)) F3.out); clear M H F3; have H := H2; clear H2; have z6 := tt)
  | (clear z6; refine st_newG rfl (rn_buildSlice (e := 27) (cs := [.slice p3 20 c3, .slice (some ⟨b12, 0, none⟩) 2 2, .slice pc cn cc, .slice pm mn cm]) (Own.refl w4) rfl (fun w' => by kernel_rfl)) ?_; intro b15 w5 hb15 M; have g15 := Nat.le_trans H.size hb15; have N5 := M.end0 (by simpa using hb15); have H2 := H.callNew M hb15; clear H; have H := H2; clear H2;
      have L5 : OldL w5 (.slice (some ⟨b15, 0, none⟩) 4 4) [(.slice p3 20 c3, F), (.slice (some ⟨b12, 0, none⟩) 2 2, [129, 129]), (.slice pc cn cc, cb), (.slice pm mn cm, mb)] := (OldL.ofLit M (.head _) rfl rfl (by
       intro x hx
       simp only [List.mem_cons, List.not_mem_nil, or_false] at hx
       rcases hx with rfl | rfl | rfl | rfl
       · exact ⟨(BIn.mono _) _ _ _ N5 F4.out, hfb.out⟩
       · exact ⟨⟨⟨_, _, rfl⟩, Own.litM H (.tail _ (.head _)) rfl, fun k hk => by obtain rfl := (blk_some hk).1; exact H.lt (.tail _ (.head _))⟩, isBytes_cons (by omega) (by omega) (isBytes_cons (by omega) (by omega) isBytes_nil)⟩
       · exact ⟨(hc'.out.mv H (by simp; omega)).bin, hcb'.out⟩
       · exact ⟨(hm'.out.mv H (by simp; omega)).bin, hmb'.out⟩
       )); clear M N5; have z7 := tt)
  | (clear z7; go_at_call 41; refine (cat_any _ _ _ L5 (catSum_len (by have e0 := hFl.out; have e1 := hcn'.out; have e2 := hmn'.out; simp; omega)) (by simp)).mono ?_; rintro e w6 ⟨r, rfl, hR, h3⟩; have H2 := H.call0 h3; clear H h3 L5; have H := H2; clear H2; rw [flatL_all] at hR; simp only [List.flatMap_cons, List.flatMap_nil, List.append_nil] at hR; rw [← hZ'.out] at hR; have R6 := Hh hR; clear hR; have z8 := tt)
  | (clear z8; go_at_call 62; refine (refSum_any _ _ _ R6.out.2.1 R6.out.2.2 (Nat.le_trans hZl.out (by decide))).mono ?_; rintro e w7 ⟨rfl, h3⟩; have H2 := H.call0 h3; clear H h3 R6; have H := H2; clear H2; have z9 := tt)
  | (clear z9; refine st_skip rfl (rn_storeAll (vs := u8s (sha Z)) H rfl rfl rfl (by kernel_rfl) (.tail (.tail .head)) (by kernel_rfl) (oneCell_ints _ _)) ?_; clear H; intro w8 H))
 refine fin_cell rfl H rfl (.tail _ (.tail _ (.head _))) rfl rfl (by kernel_rfl) rfl ⟨rfl, ?_⟩
 exact H.end0 (by simp; omega)
theorem Own.litSub {w0 w : World} {L : List Ent} {b : Nat} {xs ys : List Int} {T : TypeId} {n m : Nat} (H : Own w0 w L) (hm : (b, u8s (xs ++ ys), T) ∈ L) (hx : m = xs.length) (hn : n = ys.length) : BytesAt w (.slice (some ⟨b, m, none⟩) n n) ys := by
 subst hn hx
 refine Or.inr ⟨b, xs.length, ys.length, rfl, ⟨Nat.le_refl _, fun h => by rw [List.eq_nil_of_length_eq_zero h]; rfl⟩, fun i x hi => ?_⟩
 rw [H.cell hm, show u8s (xs ++ ys) = u8s xs ++ u8s ys from ints_append .., List.getElem?_append_right (by simp), length_ints, Nat.add_sub_cancel_left]
 exact hi
theorem Own.rowL {w0 w : World} {L : List Ent} {b : Nat} {xs ys : List Int} {T : TypeId} (H : Own w0 w L) (hm : (b, u8s (xs ++ ys), T) ∈ L) (j : Nat) (v : Value) (hj : (u8s xs)[j]? = some v) : w.cell? ⟨b, 0 + j, none⟩ = some v := by
 have hl : j < (u8s xs).length := (List.getElem?_eq_some_iff.1 hj).1
 rw [H.cell hm, show u8s (xs ++ ys) = u8s xs ++ u8s ys from ints_append .., Nat.zero_add, List.getElem?_append_left hl]
 exact hj
theorem Own.rowR {w0 w : World} {L : List Ent} {b m : Nat} {xs ys : List Int} {T : TypeId} (H : Own w0 w L) (hm : (b, u8s (xs ++ ys), T) ∈ L) (hx : m = xs.length) (j : Nat) (v : Value) (hj : (u8s ys)[j]? = some v) : w.cell? ⟨b, m + j, none⟩ = some v := by
 subst hx
 rw [H.cell hm, show u8s (xs ++ ys) = u8s xs ++ u8s ys from ints_append .., List.getElem?_append_right (by simp), length_ints, Nat.add_sub_cancel_left]
 exact hj
theorem bin_lit {P : Program} {o : Oper} {a : Act} {w : World} {t e : TypeId} {len : Nat} {parts : Array (Nat × Operand)} {xs : List Int} (ho : o.op = .buildSlice t len parts) (hl : len = xs.length)
 (hf : ∀ w', (Instr.buildSlice t len (parts.map fun (i, x) => (i, a.eval x))).run P w' = .ok (.slice (some ⟨w'.heap.size, 0, none⟩) len len) (w'.alloc (.cells (u8s xs).toArray e))) :
 YieldsTo P o a w (fun v w' => Own w w' [] ∧ BIn xs w' v) := by
 subst hl
 obtain ⟨n, w1, hr, hn, ho1⟩ := rn_buildSlice (o := o) (a := a) (Own.refl w) ho hf
 refine yieldsTo_val' hr ⟨ho1.end0 (by simpa using hn), ⟨_, _, rfl⟩, Own.litM ho1 (.head _) rfl, fun k hk => ?_⟩
 obtain rfl := (blk_some hk).1
 exact ho1.lt (.head _)
def LitL (ls : List (List Int)) : World → Value → Prop := fun w v => ∃ l, OldL w v l ∧ l.map (·.2) = ls
theorem LitL.mono (ls : List (List Int)) : Mono (LitL ls) := fun _ _ _ h ⟨l, h1, h2⟩ => ⟨l, ⟨SlAt.own0 h1.sl h, fun k hk => Nat.lt_of_lt_of_le (h1.lt k hk) h.size, fun i x hx => ⟨(h1.el i x hx).1.mv h (by simp), (h1.el i x hx).2⟩⟩, h2⟩
theorem LitL.flat {ls : List (List Int)} {l : List (Value × List Int)} (h : l.map (·.2) = ls) : flatL l l.length = ls.flatten := by
 rw [flatL_all, ← h, List.flatMap_def]
theorem litL_build {P : Program} {o : Oper} {a : Act} {w : World} {t e : TypeId} {len : Nat} {parts : Array (Nat × Operand)} {vs : List Value} {l : List (Value × List Int)} (ho : o.op = .buildSlice t len parts) (hl : len = l.length) (hv : vs = l.map (·.1)) (hel : ∀ x ∈ l, BIn x.2 w x.1 ∧ IsBytes x.2)
 (hf : ∀ w', (Instr.buildSlice t len (parts.map fun (i, x) => (i, a.eval x))).run P w' = .ok (.slice (some ⟨w'.heap.size, 0, none⟩) len len) (w'.alloc (.cells vs.toArray e))) :
 YieldsTo P o a w (fun v w' => Own w w' [] ∧ LitL (l.map (·.2)) w' v) := by
 obtain ⟨n, w1, hr, hn, ho1⟩ := rn_buildSlice (o := o) (a := a) (Own.refl w) ho hf
 have h0 := ho1.end0 (by simpa using hn)
 exact yieldsTo_val' hr ⟨h0, l, OldL.ofLit ho1 (.head _) hv hl fun x hx => ⟨(BIn.mono _) _ _ _ h0 (hel x hx).1, (hel x hx).2⟩, rfl⟩
theorem catL_any (w : World) (v : Value) (ls : List (List Int)) (h : LitL ls w v) (hl : ls.flatten.length ≤ 140737488355000) (hn : ls.length ≤ 1000) :
 Calls Tryz.prog 41 #[v] w fun e w' => ∃ r, e = .returned r ∧ BIn ls.flatten w' r ∧ Own w w' [] := by
 obtain ⟨l, h1, h2⟩ := h
 have hlen : l.length = ls.length := by rw [← h2, List.length_map]
 have h3 := cat_any w v l h1 (by rw [LitL.flat h2]; exact hl) (by omega)
 rwa [LitL.flat h2] at h3
theorem sp_callR {P : Program} {ops : Array Oper} {w : World} {K : (World → (Nat → Prop) → Prop) → Act → Prop} {sps : List Sp} {o : Oper} {rest : List Oper} {F : World → (Nat → Prop) → Prop} {a : Act} {A : World → Value → Prop} (hm : Mono A) (hw : Region.wanted o (yielded ops a.tmps) = true) {f : Nat} {fn : Func} {xs : Array Operand} {ats : Array TypeId} {args : Array Value} (hop : o.op = .call { callee := .value (.func f), args := xs, argTypes := ats }) (hargs : xs.map a.eval = args)
 (hf : P.funcs[f]? = some fn) (hname : (fn.name == "runtime.NumGoroutine") = false) (hb : fn.body.isNone = false)
 (h1 : ∀ w', Own w w' [] → F w' (fun s => s ∈ o.looksAt ops) → Calls P f args w' fun e w'' => ∃ r, e = .returned r ∧ A w'' r ∧ Own w' w'' [])
 (h2 : ∀ v, wpSp P ops w K sps rest (fun w' S => F w' S ∧ ∀ d, o.dst = some d → S d → A w' v) (a.put o.dst v)) : wpSp P ops w K (.rel A :: sps) (o :: rest) F a := by
 refine sp_rel hm hw (fun w' hw' hF => ?_) h2
 unfold YieldsTo
 rw [Conc.run_call_body hop hf hname hb, hargs]
 exact (h1 w' hw' hF).mono fun e w'' ⟨r, he, hA, ho⟩ => ⟨r, he, ho, hA⟩
set_option maxRecDepth 100000 in
theorem secret_any (w : World) (id seed : List Int) (h16 : id.length = 16) (h32 : seed.length = 32) (hid : IsBytes id) (hsd : IsBytes seed) (q n : Nat) (hq : q < 64) (hn : n < 65536) :
 Calls Tryz.prog 65 #[.agg (u8s (id ++ seed)).toArray, .int .i64 q, .int .i64 n] w fun e w' => e = .returned (.agg (u8s (sha (pre22 id q n ++ 255 :: seed))).toArray) ∧ Own w w' [] := by
 have H := Own.refl w
 have h16' := Hh h16
 have hfr : Hid (∀ w', Calls Tryz.prog 63 #[.agg (u8s id).toArray, .int .i64 q] w' fun e w'' => ∃ r, e = .returned r ∧ BIn (frontq id q) w'' r ∧ Own w' w'' []) := fun w' => (front_any w' id h16 q hq).mono fun e w'' ⟨r, h1, h2⟩ => ⟨r, h1, h2.bin, h2.own0⟩
 have hfb := Hh (isBytes_frontq hid q)
 have hsb := Hh hsd
 obtain ⟨N, hN⟩ : ∃ N, N = numB n 2 := ⟨_, rfl⟩
 have hnb : Hid (IsBytes N) := by rw [hN]; exact isBytes_numB _ _
 have hnum : Hid (∀ w', Calls Tryz.prog 42 #[.int .u64 n, .int .i64 2] w' fun e w'' => ∃ r, e = .returned r ∧ BIn N w'' r ∧ Own w' w'' []) := fun w' => by rw [hN]; exact refNum_any w' n 2 (by omega) (by omega)
 have hNl : Hid (N.length = 2) := by show _ = _; rw [hN, length_numB]
 obtain ⟨F, hF⟩ : ∃ F, F = frontq id q := ⟨_, rfl⟩
 rw [← hF] at hfr hfb
 have hFl : Hid (F.length = 20) := by show _ = _; rw [hF]; exact length_frontq h16 q
 have hsz := Hh (size_idL h16)
 obtain ⟨Z, hZ⟩ : ∃ Z, Z = pre22 id q n ++ 255 :: seed := ⟨_, rfl⟩
 have hZ2 : Z = [F, N, [255], seed].flatten := by rw [hZ, pre22_eq, ← hF, ← hN]; simp
 have hZl : Hid (Z.length ≤ 55) := by show _ ≤ _; rw [hZ2]; have := hFl.out; have := hNl.out; simp; omega
 rw [← hZ]
 have hcat : Hid (∀ w' v, LitL [F, N, [255], seed] w' v → Calls Tryz.prog 41 #[v] w' fun e w'' => ∃ r, e = .returned r ∧ BIn Z w'' r ∧ Own w' w'' []) := fun w' v h => by
  have h3 := catL_any w' v _ h (by rw [← hZ2]; exact Nat.le_trans hZl.out (by decide)) (by simp)
  rwa [← hZ2] at h3
 have hsum : Hid (∀ w' v, BIn Z w' v → Calls Tryz.prog 62 #[v] w' fun e w'' => e = .returned (.agg (u8s (sha Z)).toArray) ∧ Own w' w'' []) := fun w' v h => refSum_any w' v Z h.2.1 h.2.2 (Nat.le_trans hZl.out (by decide))
 have h32' := Hh h32
 clear hZ hZ2 hF hN hid hsd h16 h32
 go_enter Tryz.func65, Tryz.ntmps65
 have z1 := tt
 go_wp2_with (first
  | (clear z1; refine st_new rfl (rn_box (cs := u8s (id ++ seed)) H rfl rfl rfl) ?_; clear H; intro b3 w1 hb3 H; have z2 := tt)
  | (clear z2; refine st_new rfl (rn_alloc H rfl info_hash) ?_; clear H; intro b6 w2 hb6 H))
 have hc8 : Hid (∀ w', Own w2 w' [] → ∀ j v, (u8s id)[j]? = some v → w'.cell? ⟨b3, 0 + j, none⟩ = some v) := fun w' h j v hj => (H.call0 h).rowL (.tail _ (.head _)) j v hj
 have hc16 : Hid (∀ w', Own w2 w' [] → BIn seed w' (.slice (some ⟨b3, 16, none⟩) 32 32)) := fun w' h => ⟨⟨_, _, by rw [h32'.out]⟩, (H.call0 h).litSub (.tail _ (.head _)) h16'.out.symm h32'.out.symm, fun k hk => by obtain rfl := (blk_some hk).1; exact (H.call0 h).lt (.tail _ (.head _))⟩
 have H2' := Hh H
 clear H
 refine region_grow 13 (by kernel_rfl) (by kernel_rfl) (by kernel_rfl) [.val (.pointer (some ⟨b3, 0, none⟩)), .val (.agg (u8s id).toArray), .val (.int .i64 q), .rel (BIn F), .val (.int .i64 n), .val (.int .u64 n), .rel (BIn N), .rel (BIn [255]), .val (.pointer (some ⟨b3, 16, none⟩)), .val (.slice (some ⟨b3, 16, none⟩) 32 32), .rel (LitL [F, N, [255], seed]), .rel (BIn Z), .val (.agg (u8s (sha Z)).toArray)] rfl ?_
 have z3 := tt
 try go_frame
 repeat (first
  | (clear z3; refine sp_run (v := .agg (u8s id).toArray) rfl (fun w' hw' _ => rn_cells rfl rfl rfl rfl hsz.out (hc8.out w' hw')) ?_; go_frame; have z4 := tt)
  | (clear z4; refine sp_callR (args := #[.agg (u8s id).toArray, .int .i64 q]) (BIn.mono _) rfl rfl (by simp [Act.eval]) Tryz.func63 (by kernel_rfl) (by kernel_rfl) (fun w' hw' _ => hfr.out w') ?_; intro v10; go_frame; have z5 := tt)
  | (clear z5; refine sp_callR (args := #[.int .u64 n, .int .i64 2]) (BIn.mono _) rfl rfl (by simp [Act.eval]) Tryz.func42 (by kernel_rfl) (by kernel_rfl) (fun w' hw' _ => hnum.out w') ?_; intro v13; go_frame; have z6 := tt)
  | (clear z6; refine sp_rel (BIn.mono _) rfl (fun w' hw' hF => bin_lit (e := 5) rfl rfl (fun w' => by kernel_rfl)) ?_; intro v14; go_frame; have z7 := tt)
  | (clear z7; refine sp_run (v := .slice (some ⟨b3, 16, none⟩) 32 32) rfl (fun w' hw' _ => rn_sliceAll rfl rfl size_u8 rfl (by omega)) ?_; go_frame; have z8 := tt)
  | (clear z8; refine sp_rel (LitL.mono _) rfl (fun w' hw' hF => ?_) ?_
     · have h10 := hF.1.1.2 _ rfl (mE (by kernel_rfl))
       have h13 := hF.1.2 _ rfl (mE (by kernel_rfl))
       have h14 := hF.2 _ rfl (mE (by kernel_rfl))
       clear hF
       obtain ⟨p10, c10, e10⟩ := h10.1
       obtain ⟨p13, c13, e13⟩ := h13.1
       obtain ⟨p14, c14, e14⟩ := h14.1
       subst e10 e13 e14
       refine litL_build (e := 27) (l := [(.slice p10 F.length c10, F), (.slice p13 N.length c13, N), (.slice p14 [255].length c14, [255]), (.slice (some ⟨b3, 16, none⟩) 32 32, seed)]) rfl rfl rfl (fun x hx => ?_) (fun w' => by kernel_rfl)
       simp only [List.mem_cons, List.not_mem_nil, or_false] at hx
       rcases hx with rfl | rfl | rfl | rfl
       · exact ⟨h10, hfb.out⟩
       · exact ⟨h13, hnb.out⟩
       · exact ⟨h14, isBytes_cons (by omega) (by omega) isBytes_nil⟩
       · exact ⟨hc16.out w' hw', hsb.out⟩
     intro v17; go_frame; have z9 := tt)
  | (clear z9; refine sp_callR (args := #[v17]) (BIn.mono _) rfl rfl (by simp [Act.eval]) Tryz.func41 (by kernel_rfl) (by kernel_rfl) (fun w' hw' hF => hcat.out w' v17 (hF.2 _ rfl (mE (by kernel_rfl)))) ?_; intro v18; go_frame; have z10 := tt)
  | (clear z10; refine sp_callN (v := .agg (u8s (sha Z)).toArray) (args := #[v18]) rfl rfl (by simp [Act.eval]) Tryz.func62 (by kernel_rfl) (by kernel_rfl) (fun w' hw' hF => hsum.out w' v18 (hF.2 _ rfl (mE (by kernel_rfl)))) ?_; go_frame)
  | (refine sp_val (fun w' hw' hF => ?_) ⟨_, rfl, nB rfl⟩ ?_
     · go_big_quiet_step (fail)
       exact rfl
     try go_frame))
 refine sp_nil ?_
 intro w' hw' hF
 have H := H2'.out.call0 hw'
 clear hw' hF H2' hc8 hc16
 simp only [List.drop_succ_cons, List.drop_zero]
 go_wp2_with (refine st_skip rfl (rn_storeAll (vs := u8s (sha Z)) H rfl rfl rfl (by kernel_rfl) .head (by kernel_rfl) (oneCell_ints _ _)) ?_; clear H; intro w8 H)
 refine fin_cell rfl H rfl (.head _) rfl rfl (by kernel_rfl) rfl ⟨rfl, ?_⟩
 exact H.end0 (by simp; omega)
end Go.Proofs.YtfihlmnbonnekaaGreat
namespace Go.Proofs.YtfihlmnbonnekaaGreat
open Go.RowKit
set_option maxRecDepth 100000 in
theorem refAlong_any (w : World) (id x : List Int) (h16 : id.length = 16) (h32 : x.length = 32) (hid : IsBytes id) (hx : IsBytes x) (q n f t : Nat) (hq : q < 64) (hn : n < 65536) (hft : f ≤ t) (ht : t ≤ 256) :
 Calls Tryz.prog 64 #[.agg (u8s id).toArray, .int .i64 q, .int .i64 n, .int .i64 f, .int .i64 t, .agg (u8s x).toArray] w fun e w' => e = .returned (.agg (u8s (stepsC (pre22 id q n) f x (t - f))).toArray) ∧ Own w w' [] := by
 have H := Own.refl w
 have h16' := Hh h16
 have h32' := Hh h32
 have hx' := Hh hx
 obtain ⟨N, hN⟩ : ∃ N, N = numB n 2 := ⟨_, rfl⟩
 have hnum : Hid (∀ w', Calls Tryz.prog 42 #[.int .u64 n, .int .i64 2] w' fun e w'' => ∃ r, e = .returned r ∧ BIn N w'' r ∧ Own w' w'' []) := fun w' => by rw [hN]; exact refNum_any w' n 2 (by omega) (by omega)
 have hNl : Hid (N.length = 2) := by show _ = _; rw [hN, length_numB]
 have hfr : Hid (∀ w', Calls Tryz.prog 63 #[.agg (u8s id).toArray, .int .i64 q] w' fun e w'' => ∃ r, e = .returned r ∧ Buf 5 .u8 w' w'' [] r (frontq id q)) := fun w' => front_any w' id h16 q hq
 have hFN : Hid (frontq id q ++ N = pre22 id q n) := by show _ = _; rw [hN]; rfl
 have hpl := Hh (length_pre22 h16 q n)
 have hpb : Hid (IsBytes (pre22 id q n)) := by show IsBytes _; rw [pre22_eq]; exact isBytes_app (isBytes_frontq hid q) (isBytes_numB _ _)
 have hFl : Hid ((frontq id q).length = 20) := length_frontq h16 q
 obtain ⟨F, hF⟩ : ∃ F, F = frontq id q := ⟨_, rfl⟩
 rw [← hF] at hfr hFN hFl
 obtain ⟨pre, hpre⟩ : ∃ p, p = pre22 id q n := ⟨_, rfl⟩
 rw [← hpre] at hFN hpl hpb ⊢
 have hsz := Hh (size_idL h16)
 clear hN hF hpre hid hx h16 h32
 go_enter Tryz.func64, Tryz.ntmps64
 have z1 := tt
 go_wp2_with (first
  | (clear z1; refine st_new rfl (rn_box (cs := u8s id) H rfl rfl rfl) ?_; clear H; intro b6 w1 hb6 H; have z2 := tt)
  | (clear z2; refine st_new rfl (rn_box (cs := u8s x) H rfl rfl rfl) ?_; clear H; intro b11 w2 hb11 H; have z3 := tt)
  | (clear z3; refine st_new rfl (rn_alloc H rfl info_hash) ?_; clear H; intro b12 w3 hb12 H; have z4 := tt)
  | (clear z4; refine st_val rfl (rn_loadAll (cs := u8s id) H rfl rfl (.tail _ (.tail _ (.head _))) rfl rfl hsz.out) ?_; have z5 := tt)
  | (clear z5; go_at_call 63; refine (hfr.out _).mono ?_; rintro e w4 ⟨r, rfl, hB⟩; have B := H.callBuf hB; clear H hB; obtain ⟨p4, c4, e4⟩ := B.slice; subst e4; rw [hFl.out] at B ⊢; have z6 := tt)
  | (clear z6; go_at_call 42; refine (hnum.out _).mono ?_; rintro e w5 ⟨r, rfl, hN5, h3⟩; replace B := B.call0 h3; clear h3; obtain ⟨pn, cn, en⟩ := hN5.1; subst en; rw [hNl.out] at hN5 ⊢; have N5 := Hh hN5.2.1; clear hN5; have z7 := tt)
  | (clear z7; refine st_app (ys := N) rfl B elem_u8 rfl rfl rfl rfl (by have h := N5.out; rw [BytesAt, hNl.out] at h; rw [hNl.out]; exact h) (by rw [hFl.out, hNl.out]; simp) (by rw [hFl.out, hNl.out]; simp) ?_; clear B N5; intro p9 c9 w9 B; rw [hFN.out] at B; have e22 : F.length + N.length = 22 := (by rw [hFl.out, hNl.out]); rw [e22] at B ⊢; clear e22))
 have hp : Hid (∀ w' L, Own w9 w' L → (∀ k ∈ L.map (·.1), k = b11 ∨ w9.heap.size ≤ k) → BIn pre w' (.slice p9 22 c9)) := fun w' L h hn => ⟨⟨_, _, by rw [hpl.out]⟩, SlAt.own B.bytesAt h (fun k hk hm => by
  rcases hn k hm with h1 | h1
  · exact B.ne hk (by subst h1; simp)
  · have := B.lt k hk; omega), fun k hk => Nat.lt_of_lt_of_le (B.lt k hk) h.size⟩
 have H9 := Hh B.own0
 have hb11' := Hh (show b11 < w9.heap.size from B.own0.lt (.tail _ (.head _)))
 have H := H9.out.sub1 (.tail _ (.head _))
 clear B
 go_loopw [14] (fun v14 wr => ∃ i : Nat, f + i ≤ t ∧ v14 = .int .i64 ((f + i : Nat) : Int) ∧ Own w9 wr [(b11, u8s (stepsC pre f x i), 24)]) (fun v14 _ => ((t : Nat) - intOf v14).toNat)
 case atStart => exact ⟨0, by omega, rfl, H⟩
 case round =>
  clear H
  obtain ⟨i, hi, rfl, H⟩ := hrel
  have hlx := Hh (length_stepsC (pre := pre) (f := f) h32'.out i)
  have hbx := Hh (isBytes_stepsC (pre := pre) (f := f) hx'.out i)
  have hst : Hid (stepsC pre f x (i + 1) = sha (pre ++ ((f + i : Nat) : Int) :: stepsC pre f x i)) := rfl
  have hfin : Hid (f + i = t → t - f = i) := fun h => by omega
  obtain ⟨k, hk⟩ : ∃ k, k = f + i := ⟨_, rfl⟩
  rw [← hk] at hst hi hfin ⊢
  obtain ⟨xi, hxi⟩ : ∃ y, y = stepsC pre f x i := ⟨_, rfl⟩
  rw [← hxi] at H hlx hst hbx
  have hxi' := Hh hxi
  have hk' := Hh hk
  clear hxi hk
  by_cases hin : k < t
  · obtain ⟨Z, hZ⟩ : ∃ Z, Z = pre ++ (k : Int) :: xi := ⟨_, rfl⟩
    rw [← hZ] at hst
    have hZ2 : Z = [pre, [(k : Int)], xi].flatten := by rw [hZ]; simp
    have hZl : Hid (Z.length ≤ 55) := by show _ ≤ _; rw [hZ2]; have := hpl.out; have := hlx.out; simp; omega
    have hcat : Hid (∀ w' v, LitL [pre, [(k : Int)], xi] w' v → Calls Tryz.prog 41 #[v] w' fun e w'' => ∃ r, e = .returned r ∧ BIn Z w'' r ∧ Own w' w'' []) := fun w' v h => by
     have h3 := catL_any w' v _ h (by rw [← hZ2]; exact Nat.le_trans hZl.out (by decide)) (by simp)
     rwa [← hZ2] at h3
    have hsum : Hid (∀ w' v, BIn Z w' v → Calls Tryz.prog 62 #[v] w' fun e w'' => e = .returned (.agg (u8s (sha Z)).toArray) ∧ Own w' w'' []) := fun w' v h => refSum_any w' v Z h.2.1 h.2.2 (Nat.le_trans hZl.out (by decide))
    clear hZ hZ2
    have hk256 : k < 256 := by omega
    have z1 := tt
    go_wp2_with (first
     | (clear z1; refine st_newG rfl (rn_buildSlice (e := 5) (cs := u8s [(k : Int)]) (Own.refl wr) rfl (fun w' => by kernel_rfl)) ?_; intro b31 w2 hb31 M; have g31 := Nat.le_trans H.size hb31; have H2 := H.callNew M hb31; clear M H; have H := H2; clear H2; have z2 := tt)
     | (refine st_val rfl (rn_sliceAll rfl rfl size_u8 rfl (by omega)) ?_)
     | (clear z2; refine st_newG rfl (rn_buildSlice (e := 27) (cs := [.slice p9 22 c9, .slice (some ⟨b31, 0, none⟩) 1 1, .slice (some ⟨b11, 0, none⟩) 32 32]) (Own.refl w2) rfl (fun w' => by kernel_rfl)) ?_; intro b33 w5 hb33 M; have g33 := Nat.le_trans H.size hb33; have H2 := H.callNew M hb33; clear H; have H := H2; clear H2;
         have L5 : LitL [pre, [(k : Int)], xi] w5 (.slice (some ⟨b33, 0, none⟩) 3 3) := ⟨[(.slice p9 22 c9, pre), (.slice (some ⟨b31, 0, none⟩) 1 1, [(k : Int)]), (.slice (some ⟨b11, 0, none⟩) 32 32, xi)], (OldL.ofLit M (.head _) rfl rfl (by
          intro y hy
          simp only [List.mem_cons, List.not_mem_nil, or_false] at hy
          rcases hy with rfl | rfl | rfl
          · exact ⟨hp.out _ _ H (by simp; omega), hpb.out⟩
          · exact ⟨⟨⟨_, _, rfl⟩, Own.litM H (.tail _ (.head _)) rfl, fun j hj => by obtain rfl := (blk_some hj).1; exact H.lt (.tail _ (.head _))⟩, isBytes_cons (by omega) (by omega) isBytes_nil⟩
          · exact ⟨⟨⟨_, _, by rw [hlx.out]⟩, Own.litM H (.tail _ (.tail _ (.head _))) hlx.out.symm, fun j hj => by obtain rfl := (blk_some hj).1; exact H.lt (.tail _ (.tail _ (.head _)))⟩, hbx.out⟩)), rfl⟩; clear M; have z3 := tt)
     | (clear z3; go_at_call 41; refine (hcat.out _ _ L5).mono ?_; rintro e w6 ⟨r, rfl, hR, h3⟩; have H2 := H.call0 h3; clear H h3 L5; have H := H2; clear H2; have R6 := Hh hR; clear hR; have z4 := tt)
     | (clear z4; go_at_call 62; refine (hsum.out _ _ R6.out).mono ?_; rintro e w7 ⟨rfl, h3⟩; have H2 := H.call0 h3; clear H h3 R6; have H := H2; clear H2; have z5 := tt)
     | (clear z5; refine st_skip rfl (rn_storeAll (vs := u8s (sha Z)) H rfl rfl rfl (by kernel_rfl) (.tail (.tail .head)) (by rw [length_ints, length_ints, hlx.out]; rfl) (oneCell_ints _ _)) ?_; clear H; intro w8 H; rw [← hst.out] at H))
    have H2 := Own.drop (L1 := [_, _]) H (by simp; omega)
    exact ⟨⟨i + 1, by have := hk'.out; omega, by rw [← Nat.add_assoc, ← hk'.out]; go_num, H2⟩, by simp [intOf]; omega⟩
  · obtain rfl : k = t := by omega
    have H2 := Own.callAt (L1 := [_]) H9.out H
    clear H H9
    have H := H2
    clear H2
    go_wp2_with (first
     | (refine st_val rfl (rn_loadAll (cs := u8s xi) H rfl rfl (.tail _ (.head _)) rfl rfl (size_hashL hlx.out)) ?_)
     | (refine st_skip rfl (rn_storeAll (vs := u8s xi) H rfl rfl rfl (size_hashL hlx.out) .head (by rw [length_ints, length_ints, hlx.out]; rfl) (oneCell_ints _ _)) ?_; clear H; intro w6 H))
    refine fin_cell rfl H rfl (.head _) rfl rfl (size_hashL hlx.out) rfl ⟨?_, ?_⟩
    · rw [hxi'.out, hfin.out (by trivial)]
    · exact H.end0 (by simp; omega)
end Go.Proofs.YtfihlmnbonnekaaGreat
namespace Go.Proofs.YtfihlmnbonnekaaGreat
open Go.RowKit
theorem Own.adopt {w0 w : World} {L : List Ent} (H : Own w0 w L) {g : Nat} {cs : List Value} {T : TypeId} (hg : w.heap[g]? = some (.cells cs.toArray T (0, 0))) (hn : g ∉ L.map (·.1)) : Own w0 w ((g, cs, T) :: L) := by
 refine ⟨H.os, H.tape, H.output, H.size, fun k hk hkn => H.keep k hk (fun h => hkn (by simp only [List.map_cons, List.mem_cons]; exact Or.inr h)), by simp only [List.map_cons, List.nodup_cons]; exact ⟨hn, H.nodup⟩, fun b cs1 T1 hm => ?_⟩
 rcases List.mem_cons.1 hm with h | h
 · cases h; exact hg
 · exact H.here b cs1 T1 h
def NewC (B : Nat) (cs : List Value) (T : TypeId) : World → Value → Prop := fun w v => ∃ g, v = .pointer (some ⟨g, 0, none⟩) ∧ B ≤ g ∧ w.heap[g]? = some (.cells cs.toArray T (0, 0))
theorem NewC.mono {B : Nat} {cs : List Value} {T : TypeId} : Mono (NewC B cs T) := fun w1 w2 v h ⟨g, h1, h2, h3⟩ => ⟨g, h1, h2, by rw [h.keep g (Array.getElem?_eq_some_iff.1 h3).1 (by simp)]; exact h3⟩
theorem newC_alloc {P : Program} {o : Oper} {a : Act} {w w1 : World} {ty : TypeId} {cs : List Value} (ho : o.op = .alloc ty) (hz : ((P.info? ty).bind (·.zero)).map (fun z => z.cells.toList) = some cs) (hw : w.heap.size ≤ w1.heap.size) :
 YieldsTo P o a w1 (fun v w' => Own w1 w' [] ∧ NewC w.heap.size cs ty w' v) := by
 obtain ⟨n, w2, hr, hn, ho1⟩ := rn_alloc (P := P) (o := o) (a := a) (Own.refl w1) ho hz
 exact yieldsTo_val' hr ⟨ho1.end0 (by simpa using hn), n, rfl, Nat.le_trans hw hn, ho1.here _ _ _ (.head _)⟩
theorem Buf.adopt {e : TypeId} {k : IntKind} {w0 w w' : World} {L : List Ent} {v : Value} {xs : List Int} (E : Buf e k w0 w L v xs) (hw : Own w w' []) {g : Nat} {cs : List Value} {T : TypeId} (hg : w.heap.size ≤ g) (hc : w'.heap[g]? = some (.cells cs.toArray T (0, 0))) : Buf e k w0 w' ((g, cs, T) :: L) v xs := by
 obtain ⟨Lv, h1, h2, h3⟩ := E
 refine ⟨Lv, h1, (Own.adopt (h2.call0 hw) hc fun hm => ?_).perm List.perm_middle.symm, h3⟩
 obtain ⟨x, hx, rfl⟩ := List.mem_map.1 hm
 have := h2.lt (b := x.1) (cs := x.2.1) (T := x.2.2) hx
 omega
theorem two_pow {k : Nat} (hk : k = 1 ∨ k = 2 ∨ k = 4 ∨ k = 8) : ∃ t : Nat, t ≤ 255 ∧ t + 1 = 2 ^ k ∧ t = 2 ^ k - 1 ∧ wrap64 ((2 : Int) ^ k) = (t : Int) + 1 := by
 rcases hk with rfl | rfl | rfl | rfl
 · exact ⟨1, by decide, rfl, rfl, by unfold wrap64; simp⟩
 · exact ⟨3, by decide, rfl, rfl, by unfold wrap64; simp⟩
 · exact ⟨15, by decide, rfl, rfl, by unfold wrap64; simp⟩
 · exact ⟨255, by decide, rfl, rfl, by unfold wrap64; simp⟩
def flatX (X : Nat → List Int) (i : Nat) : List Int := (List.range i).flatMap X
theorem flatX_zero (X : Nat → List Int) : flatX X 0 = [] := rfl
theorem flatX_succ (X : Nat → List Int) (i : Nat) : flatX X (i + 1) = flatX X i ++ X i := by simp [flatX, List.range_succ]
theorem length_flatX {X : Nat → List Int} (h : ∀ i, (X i).length = 32) : ∀ i, (flatX X i).length = 32 * i
 | 0 => rfl
 | i + 1 => by rw [flatX_succ, List.length_append, length_flatX h i, h i]; omega
theorem isBytes_flatX {X : Nat → List Int} (h : ∀ i, IsBytes (X i)) : ∀ i, IsBytes (flatX X i)
 | 0 => isBytes_nil
 | i + 1 => by rw [flatX_succ]; exact isBytes_app (isBytes_flatX h i) (h i)
def secretOf (id seed : List Int) (q n : Nat) : List Int := sha (pre22 id q n ++ 255 :: seed)
def chainOf (id seed : List Int) (q : Nat) (d : Nat → Nat) (n : Nat) : List Int := stepsC (pre22 id q n) 0 (secretOf id seed q n) (d n)
theorem length_chainOf (id seed : List Int) (q : Nat) (d : Nat → Nat) (n : Nat) : (chainOf id seed q d n).length = 32 := length_stepsC rfl _
theorem isBytes_chainOf (id seed : List Int) (q : Nat) (d : Nat → Nat) (n : Nat) : IsBytes (chainOf id seed q d n) := isBytes_stepsC (isBytes_sha _) _
def endsOf (id : List Int) (q : Nat) (l : List Int) : List Int := sha (frontq id q ++ ([128, 128] ++ l))
def pubOf (id seed : List Int) (q k : Nat) : List Int := endsOf id q (flatX (chainOf id seed q fun _ => 2 ^ k - 1) (chN k))
theorem size_secret : (Tryz.prog.info? 26).map (·.size) = some 48 := by kernel_rfl
theorem size_secretL {id seed : List Int} (h1 : id.length = 16) (h2 : seed.length = 32) : (Tryz.prog.info? 26).map (·.size) = some (u8s (id ++ seed)).length := by rw [length_ints, List.length_append, h1, h2]; exact size_secret
set_option maxRecDepth 100000 in
theorem refPublic_any (w : World) (id seed : List Int) (h16 : id.length = 16) (h32 : seed.length = 32) (hid : IsBytes id) (hsd : IsBytes seed) (q k : Nat) (hq : q < 32) (hk : k = 1 ∨ k = 2 ∨ k = 4 ∨ k = 8) :
 Calls Tryz.prog 34 #[.agg (u8s (id ++ seed)).toArray, .int .i64 q, .int .i64 k] w fun e w' => e = .returned (.agg (u8s (pubOf id seed q k)).toArray) ∧ Own w w' [] := by
 have H := Own.refl w
 obtain ⟨t, ht255, ht1, ht2, hsh⟩ := two_pow hk
 have hch := Hh (fun w' => refChains_k w' k hk)
 obtain ⟨hC0, hC1⟩ := chN_le k
 obtain ⟨C, hC⟩ : ∃ C, C = chN k := ⟨_, rfl⟩
 obtain ⟨X, hX⟩ : ∃ X, X = chainOf id seed q fun _ => 2 ^ k - 1 := ⟨_, rfl⟩
 have hXl : Hid (∀ i, (X i).length = 32) := fun i => by rw [hX]; exact length_chainOf ..
 have hXb : Hid (∀ i, IsBytes (X i)) := fun i => by rw [hX]; exact isBytes_chainOf _ _ _ _ _
 have hsec : Hid (∀ w' n, n < 300 → Calls Tryz.prog 65 #[.agg (u8s (id ++ seed)).toArray, .int .i64 q, .int .i64 (n : Nat)] w' fun e w'' => e = .returned (.agg (u8s (secretOf id seed q n)).toArray) ∧ Own w' w'' []) := fun w' n hn => secret_any w' id seed h16 h32 hid hsd q n (by omega) (by omega)
 have hal : Hid (∀ w' n, n < 300 → Calls Tryz.prog 64 #[.agg (u8s id).toArray, .int .i64 q, .int .i64 (n : Nat), .int .i64 0, .int .i64 t, .agg (u8s (secretOf id seed q n)).toArray] w' fun e w'' => e = .returned (.agg (u8s (X n)).toArray) ∧ Own w' w'' []) := fun w' n hn => by
  have h := refAlong_any w' id (secretOf id seed q n) h16 rfl hid (isBytes_sha _) q n 0 t (by omega) (by omega) (by omega) (by omega)
  rw [show stepsC (pre22 id q n) 0 (secretOf id seed q n) (t - 0) = X n by rw [hX, Nat.sub_zero, ht2]; rfl] at h
  exact h
 have hends : Hid (∀ w' lv lb, Old w' lv lb → IsBytes lb → lb.length ≤ 100000 → Calls Tryz.prog 66 #[.agg (u8s id).toArray, .int .i64 q, lv] w' fun e w'' => e = .returned (.agg (u8s (endsOf id q lb)).toArray) ∧ Own w' w'' []) := fun w' lv lb h1 h2 h3 => ends_any w' id h16 hid q (by omega) lv lb h1 h2 h3
 have hres : Hid (pubOf id seed q k = endsOf id q (flatX X C)) := by show _ = _; rw [hX, hC]; rfl
 obtain ⟨R, hR⟩ : ∃ R, R = pubOf id seed q k := ⟨_, rfl⟩
 rw [← hR] at hres ⊢
 have hRl : Hid (R.length = 32) := by show _ = _; rw [hR]; rfl
 obtain ⟨S, hS⟩ : ∃ S, S = secretOf id seed q := ⟨_, rfl⟩
 have hsz := Hh (size_idL h16)
 have hsz48 := Hh (size_secretL h16 h32)
 rw [← hC] at hch hC0 hC1
 simp only [← hS] at hsec hal
 have hk8 : k ≤ 8 := by omega
 clear hX hC hR hS hid hsd h16 h32 hk ht1 ht2
 go_enter Tryz.func34, Tryz.ntmps34
 have z1 := tt
 go_wp2_with (first
  | (clear z1; refine st_new rfl (rn_box (cs := u8s (id ++ seed)) H rfl rfl rfl) ?_; clear H; intro b3 w1 hb3 H; have z2 := tt)
  | (clear z2; refine st_new rfl (rn_alloc H rfl info_hash) ?_; clear H; intro b6 w3 hb6 H))
 have hc16 : Hid (∀ w', Own w3 w' [] → ∀ j v, (u8s id)[j]? = some v → w'.cell? ⟨b3, 0 + j, none⟩ = some v) := fun w' h j v hj => (H.call0 h).rowL (.tail _ (.head _)) j v hj
 have hc48 : Hid (∀ w', Own w3 w' [] → ∀ j v, (u8s (id ++ seed))[j]? = some v → w'.cell? ⟨b3, 0 + j, none⟩ = some v) := fun w' h j v hj => by rw [(H.call0 h).cell (.tail _ (.head _)), Nat.zero_add]; exact hj
 have H3 := Hh H
 clear H
 have B := Buf.nil (e := 5) (k := .u8) (Own.refl w3)
 go_loopw [7, 8] (fun v7 v8 wr => ∃ (i : Nat) (p : Option Addr) (c : Nat), i ≤ C ∧ v8 = .int .i64 ((i : Nat) : Int) ∧ v7 = .slice p (32 * i) c ∧ Buf 5 .u8 w3 wr [] v7 (flatX X i)) (fun _ v8 _ => ((C : Nat) - intOf v8).toNat)
 case atStart => exact ⟨0, none, 0, by omega, rfl, rfl, B⟩
 case round =>
  clear B
  obtain ⟨i, p, c, hi, rfl, rfl, B⟩ := hrel
  by_cases hin : i < C
  · have hs1 : Hid (∀ w', Calls Tryz.prog 65 #[.agg (u8s (id ++ seed)).toArray, .int .i64 q, .int .i64 i] w' fun e w'' => e = .returned (.agg (u8s (S i)).toArray) ∧ Own w' w'' []) := fun w' => hsec.out w' i (by omega)
    have ha1 : Hid (∀ w', Calls Tryz.prog 64 #[.agg (u8s id).toArray, .int .i64 q, .int .i64 i, .int .i64 0, .int .i64 t, .agg (u8s (S i)).toArray] w' fun e w'' => e = .returned (.agg (u8s (X i)).toArray) ∧ Own w' w'' []) := fun w' => hal.out w' i (by omega)
    have hxl := Hh (hXl.out i)
    have hst := Hh (flatX_succ X i)
    have hfl := Hh (length_flatX hXl.out i)
    obtain ⟨Si, hSi⟩ : ∃ s, s = S i := ⟨_, rfl⟩
    obtain ⟨Xi, hXi⟩ : ∃ s, s = X i := ⟨_, rfl⟩
    rw [← hSi, ← hXi] at ha1
    rw [← hSi] at hs1
    rw [← hXi] at hxl hst
    clear hSi hXi
    go_wp2_with (go_at_call 54; refine (hch.out _).mono ?_; rintro e w4 ⟨rfl, h3⟩; replace B := B.call0 h3; clear h3)
    have BW := Hh B
    clear B
    refine region_grow 14 (by kernel_rfl) (by kernel_rfl) (by kernel_rfl) [.val (.pointer (some ⟨b3, 0, none⟩)), .val (.agg (u8s id).toArray), .val (.int .i64 q), .val (.int .i64 i), .val (.int .i64 k), .val (.int .u64 k), .val (.int .i64 ((t : Int) + 1)), .val (.int .i64 t), .val (.agg (u8s (id ++ seed)).toArray), .val (.int .i64 q), .val (.int .i64 i), .val (.agg (u8s Si).toArray), .val (.agg (u8s Xi).toArray), .rel (NewC w4.heap.size (u8s (List.replicate 32 0)) 24)] rfl ?_
    have z3 := tt
    try go_frame
    repeat (first
     | (clear z3; refine sp_run (v := .agg (u8s id).toArray) rfl (fun w' hw' _ => rn_cells rfl rfl rfl rfl hsz.out (hc16.out w' (BW.out.own0.trans hw'))) ?_; go_frame; have z4 := tt)
     | (clear z4; refine sp_run (v := .agg (u8s (id ++ seed)).toArray) rfl (fun w' hw' _ => rn_cells rfl rfl rfl rfl hsz48.out (hc48.out w' (BW.out.own0.trans hw'))) ?_; go_frame; have z5 := tt)
     | (clear z5; refine sp_callN (v := .agg (u8s Si).toArray) (args := #[.agg (u8s (id ++ seed)).toArray, .int .i64 q, .int .i64 i]) rfl rfl (by simp [Act.eval]) Tryz.func65 (by kernel_rfl) (by kernel_rfl) (fun w' _ _ => hs1.out w') ?_; go_frame; have z6 := tt)
     | (clear z6; refine sp_callN (v := .agg (u8s Xi).toArray) (args := #[.agg (u8s id).toArray, .int .i64 q, .int .i64 i, .int .i64 0, .int .i64 t, .agg (u8s Si).toArray]) rfl rfl (by simp [Act.eval]) Tryz.func64 (by kernel_rfl) (by kernel_rfl) (fun w' _ _ => ha1.out w') ?_; go_frame; have z7 := tt)
     | (clear z7; refine sp_rel NewC.mono rfl (fun w' hw' _ => newC_alloc rfl info_hash hw'.size) ?_; intro v9; go_frame)
     | (refine sp_val (fun w' hw' hF => ?_) ⟨_, rfl, nB rfl⟩ ?_
        · go_big_quiet_step (fail)
          first
             | exact rfl
             | (simp only [hsh]; exact rfl)
             | (simp only [Int.add_sub_cancel]; exact rfl)
        try go_frame))
    refine sp_nil ?_
    intro w5 hw' hF
    obtain ⟨g, rfl, hg, hgc⟩ := hF.2 _ rfl trivial
    have B := BW.out.adopt hw' hg hgc
    have hgn := Hh (Nat.le_trans BW.out.own0.size hg)
    clear hw' hF hg hgc hs1 ha1 BW
    simp only [List.drop_succ_cons, List.drop_zero]
    have hsum : Hid ((flatX X i).length + Xi.length = 32 * (i + 1)) := by show _ = _; rw [hfl.out, hxl.out]; omega
    go_wp2_with (first
     | (refine st_bufPut (vs := u8s Xi) rfl B rfl rfl rfl (by rw [length_ints, hxl.out]; exact size_hash) (by rw [length_ints, length_ints, hxl.out]; rfl) (oneCell_ints _ _) ?_; clear B; intro w6 B)
     | (refine st_val rfl (rn_sliceAll rfl rfl size_u8 rfl (by omega)) ?_)
     | (refine st_app (ys := Xi) rfl B elem_u8 rfl rfl rfl rfl (by have h := Own.litM (T := 24) B.own0 (.head _) hxl.out.symm; exact h) (by rw [hsum.out]; omega) (by rw [hsum.out]; omega) ?_; clear B; intro p7 c7 w7 B; rw [← hst.out] at B; rw [hsum.out] at B ⊢; have B2 := B.pop hgn.out; clear B; have B := B2; clear B2))
    exact ⟨⟨i + 1, _, _, by omega, by go_num, rfl, B⟩, by simp [intOf]; omega⟩
  · obtain rfl : i = C := by omega
    have hO : Hid (∀ w', Own wr w' [] → Old w' (.slice p (32 * i) c) (flatX X i)) := fun w' h => ⟨SlAt.own0 B.bytesAt h, fun k hk => Nat.lt_of_lt_of_le (B.lt k hk) h.size⟩
    have hfl := Hh (length_flatX hXl.out i)
    have hfb := Hh (isBytes_flatX hXb.out i)
    have HR := Hh B.own0
    clear B
    have H := Own.refl wr
    go_wp2_with (first
     | (go_at_call 54; refine (hch.out _).mono ?_; rintro e w4 ⟨rfl, h3⟩; replace H := H.call0 h3; clear h3)
     | (refine st_val rfl (rn_cells rfl rfl rfl rfl hsz.out (hc16.out _ (HR.out.trans H))) ?_)
     | (go_at_call 66; refine (hends.out _ _ _ (hO.out _ H) hfb.out (by rw [hfl.out]; omega)).mono ?_; rintro e w4 ⟨rfl, h3⟩; rw [← hres.out]; replace H := H3.out.call0 (HR.out.trans (H.trans h3)); clear h3)
     | (refine st_skip rfl (rn_storeAll (vs := u8s R) H rfl rfl rfl (size_hashL hRl.out) .head (by rw [length_ints, length_ints, hRl.out]; rfl) (oneCell_ints _ _)) ?_; clear H; intro w8 H))
    refine fin_cell rfl H rfl (.head _) rfl rfl (size_hashL hRl.out) rfl ⟨rfl, ?_⟩
    exact H.end0 (by simp; omega)
end Go.Proofs.YtfihlmnbonnekaaGreat
namespace Go.Proofs.YtfihlmnbonnekaaGreat
open Go.RowKit
set_option maxRecDepth 100000 in
theorem refNumB_any (w : World) (x : Int) (m : Nat) (hm0 : 0 < m) (hm8 : m ≤ 8) :
 Calls Tryz.prog 42 #[.int .u64 x, .int .i64 m] w fun e w' => ∃ r, e = .returned r ∧ Buf 5 .u8 w w' [] r (numB x m) := by
 have H := Own.refl w
 have hstep : Hid (∀ i, i < m → (numB x m).take (m - (i + 1)) ++ [x / 2 ^ (8 * i) % 256] = (numB x m).take (m - i)) := fun i hi => numB_step hi
 have hlen := Hh (length_numB x m)
 obtain ⟨nb, hnb⟩ : ∃ nb, numB x m = nb := ⟨_, rfl⟩
 rw [hnb] at hstep hlen ⊢
 clear hnb
 have B : Buf 5 .u8 w w [] (.slice none 0 0) [] := Buf.nil H
 clear H
 go_enter Tryz.func42, Tryz.ntmps42
 go_wp2_with fail
 go_loopw [5, 6] (fun v5 v6 wr => ∃ i p c, i ≤ m ∧ v6 = .int .i64 ((i : Int) - 1) ∧ v5 = .slice p (m - i) c ∧ Buf 5 .u8 w wr [] v5 (nb.take (m - i))) (fun _ v6 _ => (intOf v6 + 2).toNat)
 case atStart => exact ⟨m, none, 0, by omega, rfl, by simp, by simpa using B⟩
 case round =>
  clear B
  obtain ⟨i, p0, c0, hi, rfl, rfl, B⟩ := hrel
  by_cases hi0 : 0 < i
  · obtain ⟨j, rfl⟩ : ∃ j, i = j + 1 := ⟨i - 1, by omega⟩
    have hj : ((j + 1 : Nat) : Int) - 1 = (j : Int) := by omega
    rw [hj]
    have hl2 : Hid ((nb.take (m - (j + 1))).length = m - (j + 1)) := by show _ = _; have := hlen.out; simp; omega
    have hsum : Hid (m - (j + 1) + 1 = m - j) := by show _ = _; omega
    have hst := Hh (hstep.out j (by omega))
    have hle : m - (j + 1) ≤ 8 := by omega
    clear hj
    go_wp2_with (first
     | (refine st_lit rfl B rfl (cs := u8s [x / 2 ^ (8 * j) % 256]) (el := 5) (fun w' => by kernel_rfl) ?_; clear B; intro b2 w5 hb2 B)
     | (refine st_app (ys := [x / 2 ^ (8 * j) % 256]) rfl B elem_u8 rfl rfl rfl rfl (B.litAt (.head _) rfl) (by rw [hl2.out]; simp; omega) (by rw [hl2.out]; simp; omega) ?_; clear B; intro p6 c6 w6 B; rw [hst.out, hl2.out] at B; rw [hl2.out]; have B2 := B.pop hb2; clear B; have B := B2; clear B2))
    exact ⟨⟨j, p6, c6, by omega, by go_num, by rw [← hsum.out], B⟩, by simp [intOf]; omega⟩
  · obtain rfl : i = 0 := by omega
    have he : Hid (nb.take (m - 0) = nb) := List.take_of_length_le (by rw [hlen.out]; omega)
    rw [he.out] at B
    have hlen2 : Hid (m - 0 = nb.length) := by show _ = _; rw [hlen.out]; rfl
    rw [hlen2.out] at B ⊢
    go_wp2_with fail
    have h1 := Hh B
    clear B
    go_ret
    exact ⟨_, rfl, h1.out⟩
def msgOf (id : List Int) (q : Nat) (c msg : List Int) : List Int := sha (frontq id q ++ ([129, 129] ++ (c ++ msg)))
def dgN (h : List Int) (k n : Nat) : Nat := ((digits h k)[n]?.getD 0).toNat
theorem dgN_eq {h : List Int} {k n : Nat} (hn : n < chN k) : (ints .i64 (digits h k))[n]? = some (.int .i64 (dgN h k n : Nat)) ∧ dgN h k n < 2 ^ k := by
 have hl : n < (digits h k).length := by rw [length_digits]; exact hn
 have hr := digits_range (digits h k)[n] (List.getElem_mem hl)
 have e : (digits h k)[n]?.getD 0 = (digits h k)[n] := by simp [hl]
 rw [ints_get hl]
 unfold dgN
 rw [e]
 have h2 : ((2 : Int) ^ k) = ((2 ^ k : Nat) : Int) := by simp
 rw [h2] at hr
 exact ⟨by rw [Int.toNat_of_nonneg hr.1], by omega⟩
def randOf (id seed : List Int) (q : Nat) : List Int := secretOf id seed q 65533
def sigOf (id seed : List Int) (q k : Nat) (msg : List Int) : List Int := numB (cdN k) 4 ++ randOf id seed q ++ flatX (chainOf id seed q (dgN (msgOf id q (randOf id seed q) msg) k)) (chN k)
theorem IIn.cellAt {w : World} {p : Option Addr} {n c : Nat} {xs : List Int} {k : IntKind} (h : IIn k xs w (.slice p n c)) (h0 : 0 < xs.length) : ∃ b off, p = some ⟨b, off, none⟩ ∧ n = xs.length ∧ ∀ i v, (ints k xs)[i]? = some v → w.cell? ⟨b, off + i, none⟩ = some v := by
 obtain ⟨⟨p1, c1, h1⟩, h2, _⟩ := h
 cases h1
 rcases h2 with ⟨_, h3, _⟩ | ⟨b, off, c2, h3, _, h4⟩
 · omega
 · cases h3
   exact ⟨b, off, rfl, rfl, h4⟩
set_option maxRecDepth 100000 in
theorem refSign_any (w : World) (id seed : List Int) (h16 : id.length = 16) (h32 : seed.length = 32) (hid : IsBytes id) (hsd : IsBytes seed) (q k : Nat) (hq : q < 32) (hk : k = 1 ∨ k = 2 ∨ k = 4 ∨ k = 8) (mv : Value) (msg : List Int) (hm : Old w mv msg) (hmb : IsBytes msg) (hml : msg.length ≤ 90000) :
 Calls Tryz.prog 45 #[.agg (u8s (id ++ seed)).toArray, .int .i64 q, .int .i64 k, mv] w fun e w' => ∃ r, e = .returned r ∧ BIn (sigOf id seed q k msg) w' r ∧ Own w w' [] := by
 have H := Own.refl w
 have hch := Hh (fun w' => refChains_k w' k hk)
 obtain ⟨hC0, hC1⟩ := chN_le k
 have hk8 : k ≤ 8 := by omega
 have hsig0 : sigOf id seed q k msg = numB (cdN k) 4 ++ randOf id seed q ++ flatX (chainOf id seed q (dgN (msgOf id q (randOf id seed q) msg) k)) (chN k) := rfl
 obtain ⟨Cr, hCr⟩ : ∃ c, c = randOf id seed q := ⟨_, rfl⟩
 have hCrl : Hid (Cr.length = 32) := by show _ = _; rw [hCr]; rfl
 have hCrb : Hid (IsBytes Cr) := by rw [hCr]; exact isBytes_sha _
 have hsr : Hid (∀ w', Calls Tryz.prog 65 #[.agg (u8s (id ++ seed)).toArray, .int .i64 q, .int .i64 65533] w' fun e w'' => e = .returned (.agg (u8s Cr).toArray) ∧ Own w' w'' []) := fun w' => by rw [hCr]; exact secret_any w' id seed h16 h32 hid hsd q 65533 (by omega) (by omega)
 obtain ⟨M, hM⟩ : ∃ M, M = msgOf id q Cr msg := ⟨_, rfl⟩
 have hMl : Hid (M.length = 32) := by show _ = _; rw [hM]; rfl
 have hMb : Hid (IsBytes M) := by rw [hM]; exact isBytes_sha _
 have hmsg : Hid (∀ w' cv mv, Old w' cv Cr → Old w' mv msg → Calls Tryz.prog 78 #[.agg (u8s id).toArray, .int .i64 q, cv, mv] w' fun e w'' => e = .returned (.agg (u8s M).toArray) ∧ Own w' w'' []) := fun w' cv mv h1 h2 => by rw [hM]; exact message_any w' id h16 hid q (by omega) cv mv Cr msg h1 hCrb.out (by rw [hCrl.out]; omega) h2 hmb (by omega)
 have hdig : Hid (∀ w', Calls Tryz.prog 77 #[.int .i64 k, .agg (u8s M).toArray] w' fun e w'' => ∃ v, e = .returned v ∧ IIn .i64 (digits M k) w'' v ∧ Own w' w'' []) := fun w' => refDigits_any w' k hk M hMl.out hMb.out
 have hcd := Hh (fun w' => refCode_any w' k hk)
 obtain ⟨cd, hcd1⟩ : ∃ c, c = cdN k := ⟨_, rfl⟩
 have hnum : Hid (∀ w', Calls Tryz.prog 42 #[.int .u64 cd, .int .i64 4] w' fun e w'' => ∃ r, e = .returned r ∧ Buf 5 .u8 w' w'' [] r (numB cd 4)) := fun w' => refNumB_any w' cd 4 (by omega) (by omega)
 have hdl := Hh (length_digits M k)
 have hdn : Hid (∀ n, n < chN k → (ints .i64 (digits M k))[n]? = some (.int .i64 (dgN M k n : Nat)) ∧ dgN M k n < 2 ^ k) := fun n hn => dgN_eq hn
 obtain ⟨ds, hds⟩ : ∃ d, d = digits M k := ⟨_, rfl⟩
 obtain ⟨D, hD⟩ : ∃ d, d = dgN M k := ⟨_, rfl⟩
 have hp256 : (2 : Nat) ^ k ≤ 256 := by have := Nat.pow_le_pow_right (n := 2) (by omega) hk8; omega
 obtain ⟨X, hX⟩ : ∃ X, X = chainOf id seed q D := ⟨_, rfl⟩
 have hXl : Hid (∀ i, (X i).length = 32) := fun i => by rw [hX]; exact length_chainOf ..
 have hsec : Hid (∀ w' n, n < 300 → Calls Tryz.prog 65 #[.agg (u8s (id ++ seed)).toArray, .int .i64 q, .int .i64 (n : Nat)] w' fun e w'' => e = .returned (.agg (u8s (secretOf id seed q n)).toArray) ∧ Own w' w'' []) := fun w' n hn => secret_any w' id seed h16 h32 hid hsd q n (by omega) (by omega)
 have hal : Hid (∀ w' n, n < chN k → Calls Tryz.prog 64 #[.agg (u8s id).toArray, .int .i64 q, .int .i64 (n : Nat), .int .i64 0, .int .i64 (D n : Nat), .agg (u8s (secretOf id seed q n)).toArray] w' fun e w'' => e = .returned (.agg (u8s (X n)).toArray) ∧ Own w' w'' []) := fun w' n hn => by
  have h2 : D n < 2 ^ k := by rw [hD]; exact (hdn.out n hn).2
  have h := refAlong_any w' id (secretOf id seed q n) h16 rfl hid (isBytes_sha _) q n 0 (D n) (by omega) (by omega) (by omega) (by omega)
  rw [show stepsC (pre22 id q n) 0 (secretOf id seed q n) (D n - 0) = X n by rw [hX, Nat.sub_zero]; rfl] at h
  exact h
 rw [← hCr, ← hM, ← hcd1, ← hD, ← hX] at hsig0
 have hsig := Hh hsig0
 obtain ⟨R, hR⟩ : ∃ R, R = sigOf id seed q k msg := ⟨_, rfl⟩
 rw [← hR] at hsig ⊢
 obtain ⟨S, hS⟩ : ∃ S, S = secretOf id seed q := ⟨_, rfl⟩
 obtain ⟨C, hC⟩ : ∃ C, C = chN k := ⟨_, rfl⟩
 have hsz := Hh (size_idL h16)
 have hsz48 := Hh (size_secretL h16 h32)
 rw [← hD] at hdn
 rw [← hds] at hdig hdl hdn
 rw [← hC] at hch hC0 hC1 hdl hdn hal hsig
 rw [← hcd1] at hcd
 simp only [← hS] at hsec hal
 have hO : Hid (Old w mv msg) := hm
 obtain ⟨pm, cm, rfl⟩ := hm.shape
 obtain ⟨ln, hln⟩ : ∃ n, n = msg.length := ⟨_, rfl⟩
 rw [← hln] at hO ⊢
 clear hX hC hR hS hid hsd h16 h32 hk hCr hM hcd1 hds hD hsig0 hm hmb hml hln hp256
 go_enter Tryz.func45, Tryz.ntmps45
 have z1 := tt
 go_wp2_with (first
  | (clear z1; refine st_new rfl (rn_box (cs := u8s (id ++ seed)) H rfl rfl rfl) ?_; clear H; intro b4 w1 hb4 H; have z2 := tt)
  | (clear z2; refine st_val rfl (rn_loadAll (cs := u8s (id ++ seed)) H rfl rfl (.head _) rfl rfl hsz48.out) ?_; have z3 := tt)
  | (clear z3; go_at_call 65; refine (hsr.out _).mono ?_; rintro e w2 ⟨rfl, h3⟩; replace H := H.call0 h3; clear h3; have z4 := tt)
  | (clear z4; refine st_new rfl (rn_alloc H rfl info_hash) ?_; clear H; intro b9 w3 hb9 H; have z5 := tt)
  | (clear z5; refine st_skip rfl (rn_storeAll (vs := u8s Cr) H rfl rfl rfl (size_hashL hCrl.out) .head (by rw [length_ints, length_ints, hCrl.out]; rfl) (oneCell_ints _ _)) ?_; clear H; intro w4 H))
 have hc16 : Hid (∀ w', Own w4 w' [] → ∀ j v, (u8s id)[j]? = some v → w'.cell? ⟨b4, 0 + j, none⟩ = some v) := fun w' h j v hj => (H.call0 h).rowL (.tail _ (.head _)) j v hj
 have hc48 : Hid (∀ w', Own w4 w' [] → ∀ j v, (u8s (id ++ seed))[j]? = some v → w'.cell? ⟨b4, 0 + j, none⟩ = some v) := fun w' h j v hj => by rw [(H.call0 h).cell (.tail _ (.head _)), Nat.zero_add]; exact hj
 have hcr : Hid (∀ w', Own w4 w' [] → Old w' (.slice (some ⟨b9, 0, none⟩) 32 32) Cr) := fun w' h => ⟨Own.litM (H.call0 h) (.head _) hCrl.out.symm, fun k hk => by obtain rfl := (blk_some hk).1; exact (H.call0 h).lt (.head _)⟩
 have hmo : Hid (∀ w', Own w4 w' [] → Old w' (.slice pm ln cm) msg) := fun w' h => hO.out.mv (H.call0 h) (by simp; omega)
 have H4 := Hh H
 clear H
 refine region_grow 8 (by kernel_rfl) (by kernel_rfl) (by kernel_rfl) [.val (.int .i64 k), .val (.pointer (some ⟨b4, 0, none⟩)), .val (.agg (u8s id).toArray), .val (.int .i64 q), .val (.slice (some ⟨b9, 0, none⟩) 32 32), .val (.slice pm ln cm), .val (.agg (u8s M).toArray), .rel (IIn .i64 ds)] rfl ?_
 have z3 := tt
 try go_frame
 repeat (first
  | (clear z3; refine sp_run (v := .agg (u8s id).toArray) rfl (fun w' hw' _ => rn_cells rfl rfl rfl rfl hsz.out (hc16.out w' hw')) ?_; go_frame; have z4 := tt)
  | (clear z4; refine sp_run (v := .slice (some ⟨b9, 0, none⟩) 32 32) rfl (fun w' hw' _ => rn_sliceAll rfl rfl size_u8 rfl (by omega)) ?_; go_frame; have z5 := tt)
  | (clear z5; refine sp_callN (v := .agg (u8s M).toArray) (args := #[.agg (u8s id).toArray, .int .i64 q, .slice (some ⟨b9, 0, none⟩) 32 32, .slice pm ln cm]) rfl rfl (by simp [Act.eval]) Tryz.func78 (by kernel_rfl) (by kernel_rfl) (fun w' hw' _ => hmsg.out w' _ _ (hcr.out w' hw') (hmo.out w' hw')) ?_; go_frame; have z6 := tt)
  | (clear z6; refine sp_callR (args := #[.int .i64 k, .agg (u8s M).toArray]) (IIn.mono _ _) rfl rfl (by simp [Act.eval]) Tryz.func77 (by kernel_rfl) (by kernel_rfl) (fun w' _ _ => hdig.out w') ?_; intro v24; go_frame)
  | (refine sp_val (fun w' hw' hF => ?_) ⟨_, rfl, nB rfl⟩ ?_
     · go_big_quiet_step (fail)
       exact rfl
     try go_frame))
 refine sp_nil ?_
 intro w5 hw' hF
 have h24 := hF.2 _ rfl trivial
 have h24b := h24.1
 obtain ⟨p24, c24, e24⟩ := h24b
 subst e24
 obtain ⟨gd, od, e24, _, hdc⟩ := h24.cellAt (by rw [hdl.out]; omega)
 subst e24
 have hdc' : Hid (∀ w', Own w5 w' [] → ∀ n, n < C → w'.cell? ⟨gd, od + n, none⟩ = some (.int .i64 (D n : Nat))) := fun w' h n hn => h.old (hdc n _ (hdn.out n hn).1) (by simp)
 have H5 := Hh hw'
 rw [hdl.out]
 clear hdc h24 hw' hF hmsg hdig hsr hmo
 simp only [List.drop_succ_cons, List.drop_zero]
 go_wp2_with fail
 refine region_grow 4 (by kernel_rfl) (by kernel_rfl) (by kernel_rfl) [.val (.int .i64 k), .val (.int .u64 cd), .rel (fun w' v => Buf 5 .u8 w5 w' [] v (numB cd 4)), .val (.slice (some ⟨b9, 0, none⟩) 32 32)] rfl ?_
 have z3 := tt
 try go_frame
 repeat (first
  | (clear z3; refine sp_callN (v := .int .u64 cd) (args := #[.int .i64 k]) rfl rfl (by simp [Act.eval]) Tryz.func43 (by kernel_rfl) (by kernel_rfl) (fun w' _ _ => hcd.out w') ?_; go_frame; have z4 := tt)
  | (clear z4; refine sp_callR (args := #[.int .u64 cd, .int .i64 4]) Buf.mono rfl rfl (by simp [Act.eval]) Tryz.func42 (by kernel_rfl) (by kernel_rfl) (fun w' hw' _ => (hnum.out w').mono fun e w'' ⟨r, h1, h2⟩ => ⟨r, h1, hw'.callBuf h2, h2.own0⟩) ?_; intro v27; go_frame; have z5 := tt)
  | (clear z5; refine sp_run (v := .slice (some ⟨b9, 0, none⟩) 32 32) rfl (fun w' hw' _ => rn_sliceAll rfl rfl size_u8 rfl (by omega)) ?_; go_frame)
  | (refine sp_val (fun w' hw' hF => ?_) ⟨_, rfl, nB rfl⟩ ?_
     · go_big_quiet_step (fail)
       exact rfl
     try go_frame))
 refine sp_nil ?_
 intro w6 hw' hF
 have B := hF.2 _ rfl trivial
 obtain ⟨p27, c27, e27⟩ := B.slice
 subst e27
 have hnl := Hh (length_numB cd 4)
 have hs36 : Hid ((numB cd 4).length + Cr.length = 36) := by show _ = _; rw [hnl.out, hCrl.out]
 clear hw' hF hcd hnum
 simp only [List.drop_succ_cons, List.drop_zero]
 rw [hnl.out] at B ⊢
 obtain ⟨A4, hA4⟩ : ∃ a, a = numB cd 4 := ⟨_, rfl⟩
 rw [← hA4] at B hnl hs36 hsig
 clear hA4
 go_wp2_with (refine st_app (ys := Cr) rfl B elem_u8 rfl rfl rfl rfl (by have h := (hcr.out _ (H5.out.trans B.own0)).1; exact h) (by rw [hs36.out]; omega) (by rw [hs36.out]; omega) ?_; clear B; intro p7 c7 w7 B; rw [hs36.out] at B ⊢)
 have hA36 : Hid ((A4 ++ Cr).length = 36) := by show _ = _; rw [List.length_append]; exact hs36.out
 obtain ⟨A36, hA⟩ : ∃ a, a = A4 ++ Cr := ⟨_, rfl⟩
 rw [← hA] at B hA36 hsig
 clear hA
 go_loopw [11, 12] (fun v11 v12 wr => ∃ (i : Nat) (p : Option Addr) (c : Nat), i ≤ C ∧ v12 = .int .i64 ((i : Nat) : Int) ∧ v11 = .slice p (36 + 32 * i) c ∧ Buf 5 .u8 w5 wr [] v11 (A36 ++ flatX X i)) (fun _ v12 _ => ((C : Nat) - intOf v12).toNat)
 case atStart => exact ⟨0, _, _, by omega, rfl, rfl, by rw [flatX_zero, List.append_nil]; exact B⟩
 case round =>
  clear B
  obtain ⟨i, p, c, hi, rfl, rfl, B⟩ := hrel
  by_cases hin : i < C
  · have hs1 : Hid (∀ w', Calls Tryz.prog 65 #[.agg (u8s (id ++ seed)).toArray, .int .i64 q, .int .i64 i] w' fun e w'' => e = .returned (.agg (u8s (S i)).toArray) ∧ Own w' w'' []) := fun w' => hsec.out w' i (by omega)
    have ha1 : Hid (∀ w', Calls Tryz.prog 64 #[.agg (u8s id).toArray, .int .i64 q, .int .i64 i, .int .i64 0, .int .i64 (D i : Nat), .agg (u8s (S i)).toArray] w' fun e w'' => e = .returned (.agg (u8s (X i)).toArray) ∧ Own w' w'' []) := fun w' => hal.out w' i hin
    have hd1 : Hid (∀ w', Own w5 w' [] → w'.cell? ⟨gd, od + i, none⟩ = some (.int .i64 (D i : Nat))) := fun w' h => hdc'.out w' h i hin
    have hxl := Hh (hXl.out i)
    have hst : Hid (A36 ++ flatX X (i + 1) = A36 ++ flatX X i ++ X i) := by show _ = _; rw [flatX_succ, List.append_assoc]
    have hfl : Hid ((A36 ++ flatX X i).length = 36 + 32 * i) := by show _ = _; rw [List.length_append, hA36.out, length_flatX hXl.out]
    obtain ⟨Si, hSi⟩ : ∃ s, s = S i := ⟨_, rfl⟩
    obtain ⟨Xi, hXi⟩ : ∃ s, s = X i := ⟨_, rfl⟩
    obtain ⟨Di, hDi⟩ : ∃ s, s = D i := ⟨_, rfl⟩
    rw [← hSi, ← hXi, ← hDi] at ha1
    rw [← hSi] at hs1
    rw [← hDi] at hd1
    rw [← hXi] at hxl hst
    clear hSi hXi hDi
    go_wp2_with (go_at_call 54; refine (hch.out _).mono ?_; rintro e w8 ⟨rfl, h3⟩; replace B := B.call0 h3; clear h3)
    have BW := Hh B
    have hw48 : Hid (∀ w', Own w8 w' [] → Own w4 w' []) := fun w' h => H5.out.trans (BW.out.own0.trans h)
    clear B
    refine region_grow 14 (by kernel_rfl) (by kernel_rfl) (by kernel_rfl) [.val (.pointer (some ⟨b4, 0, none⟩)), .val (.agg (u8s id).toArray), .val (.int .i64 q), .val (.int .i64 i), .val (.slice (some ⟨gd, od, none⟩) C c24), .val (.int .i64 i), .val (.pointer (some ⟨gd, od + i, none⟩)), .val (.int .i64 Di), .val (.agg (u8s (id ++ seed)).toArray), .val (.int .i64 q), .val (.int .i64 i), .val (.agg (u8s Si).toArray), .val (.agg (u8s Xi).toArray), .rel (NewC w8.heap.size (u8s (List.replicate 32 0)) 24)] rfl ?_
    have z3 := tt
    try go_frame
    repeat (first
     | (clear z3; refine sp_run (v := .agg (u8s id).toArray) rfl (fun w' hw' _ => rn_cells rfl rfl rfl rfl hsz.out (hc16.out w' (hw48.out w' hw'))) ?_; go_frame; have z4 := tt)
     | (clear z4; refine sp_run (v := .int .i64 Di) rfl (fun w' hw' _ => rn_cell rfl rfl rfl rfl (hd1.out w' (BW.out.own0.trans hw'))) ?_; go_frame; have z5 := tt)
     | (clear z5; refine sp_run (v := .agg (u8s (id ++ seed)).toArray) rfl (fun w' hw' _ => rn_cells rfl rfl rfl rfl hsz48.out (hc48.out w' (hw48.out w' hw'))) ?_; go_frame; have z6 := tt)
     | (clear z6; refine sp_callN (v := .agg (u8s Si).toArray) (args := #[.agg (u8s (id ++ seed)).toArray, .int .i64 q, .int .i64 i]) rfl rfl (by simp [Act.eval]) Tryz.func65 (by kernel_rfl) (by kernel_rfl) (fun w' _ _ => hs1.out w') ?_; go_frame; have z7 := tt)
     | (clear z7; refine sp_callN (v := .agg (u8s Xi).toArray) (args := #[.agg (u8s id).toArray, .int .i64 q, .int .i64 i, .int .i64 0, .int .i64 Di, .agg (u8s Si).toArray]) rfl rfl (by simp [Act.eval]) Tryz.func64 (by kernel_rfl) (by kernel_rfl) (fun w' _ _ => ha1.out w') ?_; go_frame; have z8 := tt)
     | (clear z8; refine sp_rel NewC.mono rfl (fun w' hw' _ => newC_alloc rfl info_hash hw'.size) ?_; intro v13; go_frame)
     | (refine sp_val (fun w' hw' hF => ?_) ⟨_, rfl, nB rfl⟩ ?_
        · go_big_quiet_step (fail)
          exact rfl
        try go_frame))
    refine sp_nil ?_
    intro w9 hw' hF
    obtain ⟨g, rfl, hg, hgc⟩ := hF.2 _ rfl trivial
    have B := BW.out.adopt hw' hg hgc
    have hgn := Hh (Nat.le_trans BW.out.own0.size hg)
    clear hw' hF hg hgc hs1 ha1 BW hd1 hw48
    simp only [List.drop_succ_cons, List.drop_zero]
    have hsum : Hid ((A36 ++ flatX X i).length + Xi.length = 36 + 32 * (i + 1)) := by show _ = _; rw [hfl.out, hxl.out]; omega
    go_wp2_with (first
     | (refine st_bufPut (vs := u8s Xi) rfl B rfl rfl rfl (by rw [length_ints, hxl.out]; exact size_hash) (by rw [length_ints, length_ints, hxl.out]; rfl) (oneCell_ints _ _) ?_; clear B; intro w10 B)
     | (refine st_val rfl (rn_sliceAll rfl rfl size_u8 rfl (by omega)) ?_)
     | (refine st_app (ys := Xi) rfl B elem_u8 rfl rfl rfl rfl (by have h := Own.litM (T := 24) B.own0 (.head _) hxl.out.symm; exact h) (by rw [hsum.out]; omega) (by rw [hsum.out]; omega) ?_; clear B; intro p11 c11 w11 B; rw [← hst.out] at B; rw [hsum.out] at B ⊢; have B2 := B.pop hgn.out; clear B; have B := B2; clear B2))
    exact ⟨⟨i + 1, _, _, by omega, by go_num, rfl, B⟩, by simp [intOf]; omega⟩
  · obtain rfl : i = C := by omega
    rw [← hsig.out] at B
    go_wp2_with (go_at_call 54; refine (hch.out _).mono ?_; rintro e w8 ⟨rfl, h3⟩; replace B := B.call0 h3; clear h3)
    have h1 := Hh B
    clear B
    go_ret
    exact ⟨_, rfl, h1.out.bin, (H4.out.call0 (H5.out.trans h1.out.own0)).end0 (by simp; omega)⟩
end Go.Proofs.YtfihlmnbonnekaaGreat
namespace Go.Proofs.YtfihlmnbonnekaaGreat
open Go.RowKit
section
variable {P : Program} {o : Oper} {a : Act} {w : World}
theorem rn_move {x : Operand} {v : Value} (ho : o.op = .move x) (hx : a.eval x = v) : (execOp a.eval o).run P w = .ok (.value v) w := by unfold execOp; simp [ho, hx]
theorem rn_assign {x : Operand} {v : Value} (ho : o.op = .assign x) (hx : a.eval x = v) : (execOp a.eval o).run P w = .ok (.value v) w := by unfold execOp; simp [ho, hx]
theorem rn_extract {x : Operand} {i : Nat} {cs : Array Value} {v : Value} (ho : o.op = .extract x i) (hx : a.eval x = .tuple cs) (hv : cs[i]? = some v) : (execOp a.eval o).run P w = .ok (.value v) w := by unfold execOp; simp [ho, hx, hv, Instr.extract]
end
def TupI (xs : List Int) : World → Value → Prop := fun w v => ∃ p c, v = .tuple #[.slice p xs.length c, .int .i64 0] ∧ IIn .i64 xs w (.slice p xs.length c)
theorem TupI.mono (xs : List Int) : Mono (TupI xs) := fun _ _ _ h ⟨p, c, h1, h2⟩ => ⟨p, c, h1, (IIn.mono _ _) _ _ _ h h2⟩
theorem digitsT_any (w : World) (k : Nat) (hk : k = 1 ∨ k = 2 ∨ k = 4 ∨ k = 8) (hs : List Int) (h32 : hs.length = 32) (hb : IsBytes hs) :
 Calls Tryz.prog 73 #[.int .i64 k, .agg (u8s hs).toArray] w fun e w' => ∃ r, e = .returned r ∧ TupI (digits hs k) w' r ∧ Own w w' [] :=
 (digits_any w k hk hs h32 hb).mono fun e w' ⟨v, h1, h2, h3⟩ => by
   have h4 := h2.1
   obtain ⟨p, c, rfl⟩ := h4
   exact ⟨_, h1, ⟨p, c, rfl, h2⟩, h3⟩
end Go.Proofs.YtfihlmnbonnekaaGreat
