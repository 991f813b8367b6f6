/- ots: the document's front, message, ends, code. -/
import Derived.Test.YtfihlmnbonnekaaChn2
import Derived.Test.YtfihlmnbonnekaaCat
import Derived.Test.YtfihlmnbonnekaaRef4
namespace Go.Proofs.Ytfihlmnbonnekaa
open Go.RowKit

theorem size_id : (Try.prog.info? 26).map (·.size) = some 16 := by kernel_rfl
theorem size_idL {xs : List Int} (h : xs.length = 16) : (Try.prog.info? 26).map (·.size) = some (u8s xs).length := by rw [length_ints, h]; exact size_id

/-- a literal of slices of bytes -/
theorem OldL.ofLit {w0 w : World} {L : List Ent} {b n : Nat} {vs : List Value} {T : TypeId} {ls : List (Value × List Int)} (H : Own w0 w L) (hm : (b, vs, T) ∈ L) (hvs : vs = ls.map (·.1)) (hn : n = ls.length)
    (hel : ∀ x ∈ ls, BIn x.2 w x.1 ∧ IsBytes x.2) : OldL w (.slice (some ⟨b, 0, none⟩) n n) ls := by
  subst hn
  refine ⟨Or.inr ⟨b, 0, ls.length, rfl, ⟨Nat.le_refl _, fun h => ?_⟩, fun i x hx => ?_⟩, fun k hk => ?_, fun i x hx => ?_⟩
  · exact List.eq_nil_of_length_eq_zero (by simpa using h)
  · rw [H.cell hm, hvs, Nat.zero_add]; exact hx
  · obtain rfl := (blk_some hk).1; exact H.lt hm
  · obtain ⟨h1, h2⟩ := hel x (List.mem_of_getElem? hx)
    exact ⟨⟨h1.2.1, h1.2.2⟩, h1.1, h2⟩

theorem flatL_all (ls : List (Value × List Int)) : flatL ls ls.length = ls.flatMap (·.2) := by unfold flatL; rw [List.take_of_length_le (Nat.le_refl _)]

theorem Old.bin {w : World} {v : Value} {bs : List Int} (h : Old w v bs) : BIn bs w v := ⟨h.shape, h.1, h.2⟩
theorem BIn.old' {w : World} {v : Value} {bs : List Int} (h : BIn bs w v) : Old w v bs := ⟨h.2.1, h.2.2⟩

theorem isBytes_cons {a : Int} {xs : List Int} (h0 : 0 ≤ a) (h1 : a < 256) (h : IsBytes xs) : IsBytes (a :: xs) := by
  intro i hi
  cases i with
  | zero => exact ⟨h0, h1⟩
  | succ i => exact h i (by simpa using hi)
theorem isBytes_nil : IsBytes [] := fun i hi => by simp at hi
theorem isBytes_app {xs ys : List Int} (h1 : IsBytes xs) (h2 : IsBytes ys) : IsBytes (xs ++ ys) := by
  intro i hi
  rcases Nat.lt_or_ge i xs.length with h | h
  · rw [List.getElem?_append_left h]; exact h1 i h
  · rw [List.getElem?_append_right h]; exact h2 _ (by simp at hi; omega)
theorem isBytes_numB (x : Int) (m : Nat) : IsBytes (numB x m) := by
  intro i hi
  have : (numB x m)[i]?.getD 0 = x / 2 ^ (8 * (m - 1 - i)) % 256 := by
    rw [length_numB] at hi
    simp [numB, hi]
  rw [this]
  omega

/-- Sum(Cat(l)) of a literal -/
theorem catSum_len {ls : List (Value × List Int)} {n : Nat} (h : (ls.flatMap (·.2)).length ≤ n) : (flatL ls ls.length).length ≤ n := by rw [flatL_all]; exact h

/-- what is hashed begins so -/
def frontq (id : List Int) (q : Nat) : List Int := id ++ numB q 4
theorem length_frontq {id : List Int} (h : id.length = 16) (q : Nat) : (frontq id q).length = 20 := by simp [frontq, h, length_numB]
theorem isBytes_frontq {id : List Int} (h : IsBytes id) (q : Nat) : IsBytes (frontq id q) := isBytes_app h (isBytes_numB _ _)
theorem pre22_eq (id : List Int) (q i : Nat) : pre22 id q i = frontq id q ++ numB i 2 := rfl

set_option maxRecDepth 100000 in
set_option maxHeartbeats 4000000 in
theorem front_any (w : World) (id : List Int) (h16 : id.length = 16) (q : Nat) (hq : q < 64) :
    Calls Try.prog 73 #[.agg (u8s id).toArray, .int .i64 q] w fun e w' => ∃ r, e = .returned r ∧ Buf 5 .u8 w w' [] r (frontq id q) := by
  have H := Own.refl w
  have h16' := Lib.hid h16
  have hl20 := Lib.hid (length_frontq h16 q)
  have hfq : Hid (id ++ numB q 4 = frontq id q) := rfl
  have hn4 := Lib.hid (length_numB (q : Int) 4)
  clear h16
  go_enter Try.func73, Try.ntmps73
  have tok1 : True := trivial
  go_wp2_with (first
    | (clear tok1; refine st_new rfl (rn_box (cs := u8s id) H rfl rfl rfl) ?_; clear H; intro b3 w1 hb3 H; have tok2 : True := trivial)
    | (clear tok2; refine st_new rfl (rn_buildSlice (e := 5) (cs := u8s []) H rfl (fun w' => by kernel_rfl)) ?_; clear H; intro b w4 hb4 H; have B : Buf 5 .u8 w w4 [(b3, u8s id, 26)] (.slice (some ⟨b, 0, none⟩) 0 0) [] := Buf.lit (xs := []) H hb4 (by decide); clear H hb4; have tok3 : True := trivial)
    | (refine st_val rfl (rn_sliceAll rfl rfl size_u8 rfl (by omega)) ?_)
    | (clear tok3; refine st_app (ys := id) rfl B elem_u8 rfl rfl rfl rfl (Own.lit B.own0 h16'.out.symm) (by rw [h16'.out]; simp) (by rw [h16'.out]; simp) ?_; clear B; intro p6 c6 w6 B; have e16 : ([] : List Int).length + id.length = 16 := (by rw [h16'.out]; rfl); rw [e16] at B ⊢; clear e16; rw [List.nil_append] at B; have B2 := B.pop hb3; clear B; have B := B2; clear B2; have tok4 : True := trivial)
    | (clear tok4; go_at_call 18; refine (refNum_any _ (q : Int) 4 (by omega) (by omega)).mono ?_; rintro e w7 ⟨r, rfl, hN, h3⟩; have B2 := B.call0 h3; clear B h3; have B := B2; clear B2; obtain ⟨pn, cn, en⟩ := hN.1; subst en; rw [hn4.out] at hN ⊢; have hN' := Lib.hid hN.2.1; clear hN; have tok5 : True := trivial)
    | (clear tok5; refine st_app (ys := numB q 4) rfl B elem_u8 rfl rfl rfl rfl (by have h := hN'.out; rw [BytesAt, hn4.out] at h; rw [hn4.out]; exact h) (by rw [h16'.out, hn4.out]; simp) (by rw [h16'.out, hn4.out]; simp) ?_; clear B; intro p8 c8 w8 B; rw [hfq.out] at B))
  have h1 := Lib.hid B
  clear B
  go_ret
  exact ⟨_, rfl, h1.out⟩

set_option maxRecDepth 100000 in
set_option maxHeartbeats 4000000 in
theorem refCode_1 (w : World) : Calls Try.prog 47 #[.int .i64 1] w fun e w' => e = .returned (.int .u64 1) ∧ Own w w' [] := by
  have H' := Lib.hid (Own.refl w)
  go_enter Try.func47, Try.ntmps47
  go_wp2_with fail
  go_ret
  exact ⟨rfl, H'.out⟩

set_option maxRecDepth 100000 in
set_option maxHeartbeats 4000000 in
theorem refCode_2 (w : World) : Calls Try.prog 47 #[.int .i64 2] w fun e w' => e = .returned (.int .u64 2) ∧ Own w w' [] := by
  have H' := Lib.hid (Own.refl w)
  go_enter Try.func47, Try.ntmps47
  go_wp2_with fail
  go_ret
  exact ⟨rfl, H'.out⟩

set_option maxRecDepth 100000 in
set_option maxHeartbeats 4000000 in
theorem refCode_4 (w : World) : Calls Try.prog 47 #[.int .i64 4] w fun e w' => e = .returned (.int .u64 3) ∧ Own w w' [] := by
  have H' := Lib.hid (Own.refl w)
  go_enter Try.func47, Try.ntmps47
  go_wp2_with fail
  go_ret
  exact ⟨rfl, H'.out⟩

set_option maxRecDepth 100000 in
set_option maxHeartbeats 4000000 in
theorem refCode_8 (w : World) : Calls Try.prog 47 #[.int .i64 8] w fun e w' => e = .returned (.int .u64 4) ∧ Own w w' [] := by
  have H' := Lib.hid (Own.refl w)
  go_enter Try.func47, Try.ntmps47
  go_wp2_with fail
  go_ret
  exact ⟨rfl, H'.out⟩

def cdN (k : Nat) : Int := if k = 1 then 1 else if k = 2 then 2 else if k = 4 then 3 else 4
theorem refCode_any (w : World) (k : Nat) (hk : k = 1 ∨ k = 2 ∨ k = 4 ∨ k = 8) : Calls Try.prog 47 #[.int .i64 k] w fun e w' => e = .returned (.int .u64 (cdN k)) ∧ Own w w' [] := by
  rcases hk with rfl | rfl | rfl | rfl
  · exact refCode_1 w
  · exact refCode_2 w
  · exact refCode_4 w
  · exact refCode_8 w
theorem refChains_k (w : World) (k : Nat) (hk : k = 1 ∨ k = 2 ∨ k = 4 ∨ k = 8) : Calls Try.prog 74 #[.int .i64 k] w fun e w' => e = .returned (.int .i64 (chN k)) ∧ Own w w' [] := by
  rcases hk with rfl | rfl | rfl | rfl <;> exact refChains_any w _
theorem chN_le (k : Nat) : 34 ≤ chN k ∧ chN k ≤ 265 := by unfold chN; repeat (first | omega | split)

set_option maxRecDepth 100000 in
set_option maxHeartbeats 4000000 in
theorem ends_any (w : World) (id : List Int) (h16 : id.length = 16) (hid : IsBytes id) (q : Nat) (hq : q < 64) (lv : Value) (lb : List Int) (hl : Old w lv lb) (hlb : IsBytes lb) (hln : lb.length ≤ 100000) :
    Calls Try.prog 76 #[.agg (u8s id).toArray, .int .i64 q, lv] w fun e w' => e = .returned (.agg (u8s (sha (frontq id q ++ ([128, 128] ++ lb)))).toArray) ∧ Own w w' [] := by
  have H := Own.refl w
  obtain ⟨pl, cl, rfl⟩ := hl.shape
  have hl' := Lib.hid hl
  have hlb' := Lib.hid hlb
  have hln' := Lib.hid hln
  clear hl hlb hln
  obtain ⟨ln, hlnn⟩ : ∃ n, n = lb.length := ⟨_, rfl⟩
  rw [← hlnn] at hl' ⊢
  have hlnn' := Lib.hid hlnn
  clear hlnn
  have h16' := Lib.hid h16
  have hfr : Hid (∀ w', Calls Try.prog 73 #[.agg (u8s id).toArray, .int .i64 q] w' fun e w'' => ∃ p c, e = .returned (.slice p 20 c) ∧ BIn (frontq id q) w'' (.slice p 20 c) ∧ Own w' w'' []) := fun w' => (front_any w' id h16 q hq).mono fun e w'' ⟨r, h1, h2⟩ => by
    obtain ⟨p, c, h3⟩ := h2.slice
    rw [length_frontq h16] at h3
    subst h3
    exact ⟨p, c, h1, h2.bin, h2.own0⟩
  have hfb := Lib.hid (isBytes_frontq hid q)
  obtain ⟨F, hF⟩ : ∃ F, F = frontq id q := ⟨_, rfl⟩
  rw [← hF] at hfr hfb ⊢
  have hFl : Hid (F.length = 20) := by show _ = _; rw [hF]; exact length_frontq h16 q
  have hsz := Lib.hid (size_idL h16)
  obtain ⟨Z, hZ⟩ : ∃ Z, Z = F ++ ([128, 128] ++ lb) := ⟨_, rfl⟩
  rw [← hZ]
  have hZ' := Lib.hid hZ
  have hZl : Hid (Z.length ≤ 300000) := by show _ ≤ _; rw [hZ]; have e0 := hFl.out; have e1 := hln'.out; simp; omega
  clear hF h16 hid hZ
  go_enter Try.func76, Try.ntmps76
  have tok1 : True := trivial
  go_wp2_with (first
    | (clear tok1; refine st_new rfl (rn_box (cs := u8s id) H rfl rfl rfl) ?_; clear H; intro b4 w1 hb4 H; have tok2 : True := trivial)
    | (clear tok2; refine st_new rfl (rn_alloc H rfl info_hash) ?_; clear H; intro b8 w2 hb8 H; have tok3 : True := trivial)
    | (clear tok3; refine st_val rfl (rn_loadAll (cs := u8s id) H rfl rfl (.tail _ (.head _)) rfl rfl hsz.out) ?_; have tok4 : True := trivial)
    | (clear tok4; go_at_call 73; refine (hfr.out _).mono ?_; rintro e w3 ⟨p3, c3, rfl, hF3, h3⟩; have H2 := H.call0 h3; clear H h3; have H := H2; clear H2; have F3 := Lib.hid hF3; clear hF3; have tok5 : True := trivial)
    | (clear tok5; refine st_newG rfl (rn_buildSlice (e := 5) (cs := u8s [128, 128]) (Own.refl w3) rfl (fun w' => by kernel_rfl)) ?_; intro b12 w4 hb12 M; have g12 := Nat.le_trans H.size hb12; have H2 := H.callNew M hb12; have F4 := Lib.hid ((BIn.mono _) _ _ _ (M.end0 (by simpa using hb12)) F3.out); clear M H F3; have H := H2; clear H2; have tok6 : True := trivial)
    | (clear tok6; refine st_newG rfl (rn_buildSlice (e := 33) (cs := [.slice p3 20 c3, .slice (some ⟨b12, 0, none⟩) 2 2, .slice pl ln cl]) (Own.refl w4) rfl (fun w' => by kernel_rfl)) ?_; intro b15 w5 hb15 M; have g15 := Nat.le_trans H.size hb15; have N5 := M.end0 (by simpa using hb15); have H2 := H.callNew M hb15; clear H; have H := H2; clear H2;
        have L5 : OldL w5 (.slice (some ⟨b15, 0, none⟩) 3 3) [(.slice p3 20 c3, F), (.slice (some ⟨b12, 0, none⟩) 2 2, [128, 128]), (.slice pl ln cl, lb)] := (OldL.ofLit M (.head _) rfl rfl (by
          intro x hx
          simp only [List.mem_cons, List.not_mem_nil, or_false] at hx
          rcases hx with rfl | rfl | rfl
          · exact ⟨(BIn.mono _) _ _ _ N5 F4.out, hfb.out⟩
          · exact ⟨⟨⟨_, _, rfl⟩, Own.litM H (.tail _ (.head _)) rfl, fun k hk => by obtain rfl := (blk_some hk).1; exact H.lt (.tail _ (.head _))⟩, isBytes_cons (by omega) (by omega) (isBytes_cons (by omega) (by omega) isBytes_nil)⟩
          · exact ⟨(hl'.out.mv H (by simp; omega)).bin, hlb'.out⟩
          )); clear M N5; have tok7 : True := trivial)
    | (clear tok7; go_at_call 40; refine (cat_any _ _ _ L5 (catSum_len (by have e0 := hFl.out; have e1 := hln'.out; simp; omega)) (by simp)).mono ?_; rintro e w6 ⟨r, rfl, hR, h3⟩; have H2 := H.call0 h3; clear H h3 L5; have H := H2; clear H2; rw [flatL_all] at hR; simp only [List.flatMap_cons, List.flatMap_nil, List.append_nil] at hR; rw [← hZ'.out] at hR; have R6 := Lib.hid hR; clear hR; have tok8 : True := trivial)
    | (clear tok8; go_at_call 39; refine (refSum_any _ _ _ R6.out.2.1 R6.out.2.2 (Nat.le_trans hZl.out (by decide))).mono ?_; rintro e w7 ⟨rfl, h3⟩; have H2 := H.call0 h3; clear H h3 R6; have H := H2; clear H2; have tok9 : True := trivial)
    | (clear tok9; refine st_skip rfl (rn_storeAll (vs := u8s (sha Z)) H rfl rfl rfl (by kernel_rfl) (.tail (.tail .head)) (by kernel_rfl) (oneCell_ints _ _)) ?_; clear H; intro w8 H))
  refine fin_cell rfl H rfl (.tail _ (.tail _ (.head _))) rfl rfl (by kernel_rfl) rfl ⟨rfl, ?_⟩
  exact H.end0 (by simp; omega)

set_option maxRecDepth 100000 in
set_option maxHeartbeats 4000000 in
theorem message_any (w : World) (id : List Int) (h16 : id.length = 16) (hid : IsBytes id) (q : Nat) (hq : q < 64) (cv mv : Value) (cb mb : List Int) (hc : Old w cv cb) (hcb : IsBytes cb) (hcn : cb.length ≤ 100000) (hm : Old w mv mb) (hmb : IsBytes mb) (hmn : mb.length ≤ 100000) :
    Calls Try.prog 78 #[.agg (u8s id).toArray, .int .i64 q, cv, mv] w fun e w' => e = .returned (.agg (u8s (sha (frontq id q ++ ([129, 129] ++ (cb ++ mb))))).toArray) ∧ Own w w' [] := by
  have H := Own.refl w
  obtain ⟨pc, cc, rfl⟩ := hc.shape
  obtain ⟨pm, cm, rfl⟩ := hm.shape
  have hc' := Lib.hid hc
  have hcb' := Lib.hid hcb
  have hcn' := Lib.hid hcn
  have hm' := Lib.hid hm
  have hmb' := Lib.hid hmb
  have hmn' := Lib.hid hmn
  clear hc hcb hcn hm hmb hmn
  obtain ⟨cn, hcnn⟩ : ∃ n, n = cb.length := ⟨_, rfl⟩
  rw [← hcnn] at hc' ⊢
  have hcnn' := Lib.hid hcnn
  clear hcnn
  obtain ⟨mn, hmnn⟩ : ∃ n, n = mb.length := ⟨_, rfl⟩
  rw [← hmnn] at hm' ⊢
  have hmnn' := Lib.hid hmnn
  clear hmnn
  have h16' := Lib.hid h16
  have hfr : Hid (∀ w', Calls Try.prog 73 #[.agg (u8s id).toArray, .int .i64 q] w' fun e w'' => ∃ p c, e = .returned (.slice p 20 c) ∧ BIn (frontq id q) w'' (.slice p 20 c) ∧ Own w' w'' []) := fun w' => (front_any w' id h16 q hq).mono fun e w'' ⟨r, h1, h2⟩ => by
    obtain ⟨p, c, h3⟩ := h2.slice
    rw [length_frontq h16] at h3
    subst h3
    exact ⟨p, c, h1, h2.bin, h2.own0⟩
  have hfb := Lib.hid (isBytes_frontq hid q)
  obtain ⟨F, hF⟩ : ∃ F, F = frontq id q := ⟨_, rfl⟩
  rw [← hF] at hfr hfb ⊢
  have hFl : Hid (F.length = 20) := by show _ = _; rw [hF]; exact length_frontq h16 q
  have hsz := Lib.hid (size_idL h16)
  obtain ⟨Z, hZ⟩ : ∃ Z, Z = F ++ ([129, 129] ++ (cb ++ mb)) := ⟨_, rfl⟩
  rw [← hZ]
  have hZ' := Lib.hid hZ
  have hZl : Hid (Z.length ≤ 300000) := by show _ ≤ _; rw [hZ]; have e0 := hFl.out; have e1 := hcn'.out; have e2 := hmn'.out; simp; omega
  clear hF h16 hid hZ
  go_enter Try.func78, Try.ntmps78
  have tok1 : True := trivial
  go_wp2_with (first
    | (clear tok1; refine st_new rfl (rn_box (cs := u8s id) H rfl rfl rfl) ?_; clear H; intro b4 w1 hb4 H; have tok2 : True := trivial)
    | (clear tok2; refine st_new rfl (rn_alloc H rfl info_hash) ?_; clear H; intro b8 w2 hb8 H; have tok3 : True := trivial)
    | (clear tok3; refine st_val rfl (rn_loadAll (cs := u8s id) H rfl rfl (.tail _ (.head _)) rfl rfl hsz.out) ?_; have tok4 : True := trivial)
    | (clear tok4; go_at_call 73; refine (hfr.out _).mono ?_; rintro e w3 ⟨p3, c3, rfl, hF3, h3⟩; have H2 := H.call0 h3; clear H h3; have H := H2; clear H2; have F3 := Lib.hid hF3; clear hF3; have tok5 : True := trivial)
    | (clear tok5; refine st_newG rfl (rn_buildSlice (e := 5) (cs := u8s [129, 129]) (Own.refl w3) rfl (fun w' => by kernel_rfl)) ?_; intro b12 w4 hb12 M; have g12 := Nat.le_trans H.size hb12; have H2 := H.callNew M hb12; have F4 := Lib.hid ((BIn.mono _) _ _ _ (M.end0 (by simpa using hb12)) F3.out); clear M H F3; have H := H2; clear H2; have tok6 : True := trivial)
    | (clear tok6; refine st_newG rfl (rn_buildSlice (e := 33) (cs := [.slice p3 20 c3, .slice (some ⟨b12, 0, none⟩) 2 2, .slice pc cn cc, .slice pm mn cm]) (Own.refl w4) rfl (fun w' => by kernel_rfl)) ?_; intro b15 w5 hb15 M; have g15 := Nat.le_trans H.size hb15; have N5 := M.end0 (by simpa using hb15); have H2 := H.callNew M hb15; clear H; have H := H2; clear H2;
        have L5 : OldL w5 (.slice (some ⟨b15, 0, none⟩) 4 4) [(.slice p3 20 c3, F), (.slice (some ⟨b12, 0, none⟩) 2 2, [129, 129]), (.slice pc cn cc, cb), (.slice pm mn cm, mb)] := (OldL.ofLit M (.head _) rfl rfl (by
          intro x hx
          simp only [List.mem_cons, List.not_mem_nil, or_false] at hx
          rcases hx with rfl | rfl | rfl | rfl
          · exact ⟨(BIn.mono _) _ _ _ N5 F4.out, hfb.out⟩
          · exact ⟨⟨⟨_, _, rfl⟩, Own.litM H (.tail _ (.head _)) rfl, fun k hk => by obtain rfl := (blk_some hk).1; exact H.lt (.tail _ (.head _))⟩, isBytes_cons (by omega) (by omega) (isBytes_cons (by omega) (by omega) isBytes_nil)⟩
          · exact ⟨(hc'.out.mv H (by simp; omega)).bin, hcb'.out⟩
          · exact ⟨(hm'.out.mv H (by simp; omega)).bin, hmb'.out⟩
          )); clear M N5; have tok7 : True := trivial)
    | (clear tok7; go_at_call 40; refine (cat_any _ _ _ L5 (catSum_len (by have e0 := hFl.out; have e1 := hcn'.out; have e2 := hmn'.out; simp; omega)) (by simp)).mono ?_; rintro e w6 ⟨r, rfl, hR, h3⟩; have H2 := H.call0 h3; clear H h3 L5; have H := H2; clear H2; rw [flatL_all] at hR; simp only [List.flatMap_cons, List.flatMap_nil, List.append_nil] at hR; rw [← hZ'.out] at hR; have R6 := Lib.hid hR; clear hR; have tok8 : True := trivial)
    | (clear tok8; go_at_call 39; refine (refSum_any _ _ _ R6.out.2.1 R6.out.2.2 (Nat.le_trans hZl.out (by decide))).mono ?_; rintro e w7 ⟨rfl, h3⟩; have H2 := H.call0 h3; clear H h3 R6; have H := H2; clear H2; have tok9 : True := trivial)
    | (clear tok9; refine st_skip rfl (rn_storeAll (vs := u8s (sha Z)) H rfl rfl rfl (by kernel_rfl) (.tail (.tail .head)) (by kernel_rfl) (oneCell_ints _ _)) ?_; clear H; intro w8 H))
  refine fin_cell rfl H rfl (.tail _ (.tail _ (.head _))) rfl rfl (by kernel_rfl) rfl ⟨rfl, ?_⟩
  exact H.end0 (by simp; omega)

theorem Own.litSub {w0 w : World} {L : List Ent} {b : Nat} {xs ys : List Int} {T : TypeId} {n m : Nat} (H : Own w0 w L) (hm : (b, u8s (xs ++ ys), T) ∈ L) (hx : m = xs.length) (hn : n = ys.length) : BytesAt w (.slice (some ⟨b, m, none⟩) n n) ys := by
  subst hn hx
  refine Or.inr ⟨b, xs.length, ys.length, rfl, ⟨Nat.le_refl _, fun h => by rw [List.eq_nil_of_length_eq_zero h]; rfl⟩, fun i x hi => ?_⟩
  rw [H.cell hm, show u8s (xs ++ ys) = u8s xs ++ u8s ys from ints_append .., List.getElem?_append_right (by simp), length_ints, Nat.add_sub_cancel_left]
  exact hi

theorem Own.rowL {w0 w : World} {L : List Ent} {b : Nat} {xs ys : List Int} {T : TypeId} (H : Own w0 w L) (hm : (b, u8s (xs ++ ys), T) ∈ L) (j : Nat) (v : Value) (hj : (u8s xs)[j]? = some v) : w.cell? ⟨b, 0 + j, none⟩ = some v := by
  have hl : j < (u8s xs).length := (List.getElem?_eq_some_iff.1 hj).1
  rw [H.cell hm, show u8s (xs ++ ys) = u8s xs ++ u8s ys from ints_append .., Nat.zero_add, List.getElem?_append_left hl]
  exact hj

theorem Own.rowR {w0 w : World} {L : List Ent} {b m : Nat} {xs ys : List Int} {T : TypeId} (H : Own w0 w L) (hm : (b, u8s (xs ++ ys), T) ∈ L) (hx : m = xs.length) (j : Nat) (v : Value) (hj : (u8s ys)[j]? = some v) : w.cell? ⟨b, m + j, none⟩ = some v := by
  subst hx
  rw [H.cell hm, show u8s (xs ++ ys) = u8s xs ++ u8s ys from ints_append .., List.getElem?_append_right (by simp), length_ints, Nat.add_sub_cancel_left]
  exact hj

theorem bin_lit {P : Program} {o : Oper} {a : Act} {w : World} {t e : TypeId} {len : Nat} {parts : Array (Nat × Operand)} {xs : List Int} (ho : o.op = .buildSlice t len parts) (hl : len = xs.length)
    (hf : ∀ w', (Instr.buildSlice t len (parts.map fun (i, x) => (i, a.eval x))).run P w' = .ok (.slice (some ⟨w'.heap.size, 0, none⟩) len len) (w'.alloc (.cells (u8s xs).toArray e))) :
    YieldsTo P o a w (fun v w' => Own w w' [] ∧ BIn xs w' v) := by
  subst hl
  obtain ⟨n, w1, hr, hn, ho1⟩ := rn_buildSlice (o := o) (a := a) (Own.refl w) ho hf
  refine yieldsTo_val' hr ⟨ho1.end0 (by simpa using hn), ⟨_, _, rfl⟩, Own.litM ho1 (.head _) rfl, fun k hk => ?_⟩
  obtain rfl := (blk_some hk).1
  exact ho1.lt (.head _)

/-- a literal of slices of bytes -/
def LitL (ls : List (List Int)) : World → Value → Prop := fun w v => ∃ l, OldL w v l ∧ l.map (·.2) = ls
theorem LitL.mono (ls : List (List Int)) : Mono (LitL ls) := fun _ _ _ h ⟨l, h1, h2⟩ => ⟨l, ⟨SlAt.own0 h1.sl h, fun k hk => Nat.lt_of_lt_of_le (h1.lt k hk) h.size, fun i x hx => ⟨(h1.el i x hx).1.mv h (by simp), (h1.el i x hx).2⟩⟩, h2⟩
theorem LitL.flat {ls : List (List Int)} {l : List (Value × List Int)} (h : l.map (·.2) = ls) : flatL l l.length = ls.flatten := by
  rw [flatL_all, ← h, List.flatMap_def]
theorem litL_build {P : Program} {o : Oper} {a : Act} {w : World} {t e : TypeId} {len : Nat} {parts : Array (Nat × Operand)} {vs : List Value} {l : List (Value × List Int)} (ho : o.op = .buildSlice t len parts) (hl : len = l.length) (hv : vs = l.map (·.1)) (hel : ∀ x ∈ l, BIn x.2 w x.1 ∧ IsBytes x.2)
    (hf : ∀ w', (Instr.buildSlice t len (parts.map fun (i, x) => (i, a.eval x))).run P w' = .ok (.slice (some ⟨w'.heap.size, 0, none⟩) len len) (w'.alloc (.cells vs.toArray e))) :
    YieldsTo P o a w (fun v w' => Own w w' [] ∧ LitL (l.map (·.2)) w' v) := by
  obtain ⟨n, w1, hr, hn, ho1⟩ := rn_buildSlice (o := o) (a := a) (Own.refl w) ho hf
  have h0 := ho1.end0 (by simpa using hn)
  exact yieldsTo_val' hr ⟨h0, l, OldL.ofLit ho1 (.head _) hv hl fun x hx => ⟨(BIn.mono _) _ _ _ h0 (hel x hx).1, (hel x hx).2⟩, rfl⟩

theorem catL_any (w : World) (v : Value) (ls : List (List Int)) (h : LitL ls w v) (hl : ls.flatten.length ≤ 140737488355000) (hn : ls.length ≤ 1000) :
    Calls Try.prog 40 #[v] w fun e w' => ∃ r, e = .returned r ∧ BIn ls.flatten w' r ∧ Own w w' [] := by
  obtain ⟨l, h1, h2⟩ := h
  have hlen : l.length = ls.length := by rw [← h2, List.length_map]
  have h3 := cat_any w v l h1 (by rw [LitL.flat h2]; exact hl) (by omega)
  rwa [LitL.flat h2] at h3

theorem sp_callR {P : Program} {ops : Array Oper} {w : World} {K : (World → (Nat → Prop) → Prop) → Act → Prop} {sps : List Sp} {o : Oper} {rest : List Oper} {F : World → (Nat → Prop) → Prop} {a : Act} {A : World → Value → Prop} (hm : Mono A) (hw : Region.wanted o (yielded ops a.tmps) = true) {f : Nat} {fn : Func} {xs : Array Operand} {ats : Array TypeId} {args : Array Value} (hop : o.op = .call { callee := .value (.func f), args := xs, argTypes := ats }) (hargs : xs.map a.eval = args)
    (hf : P.funcs[f]? = some fn) (hname : (fn.name == "runtime.NumGoroutine") = false) (hb : fn.body.isNone = false)
    (h1 : ∀ w', Own w w' [] → F w' (fun s => s ∈ o.looksAt ops) → Calls P f args w' fun e w'' => ∃ r, e = .returned r ∧ A w'' r ∧ Own w' w'' [])
    (h2 : ∀ v, wpSp P ops w K sps rest (fun w' S => F w' S ∧ ∀ d, o.dst = some d → S d → A w' v) (a.put o.dst v)) : wpSp P ops w K (.rel A :: sps) (o :: rest) F a := by
  refine sp_rel hm hw (fun w' hw' hF => ?_) h2
  unfold YieldsTo
  rw [Conc.run_call_body hop hf hname hb, hargs]
  exact (h1 w' hw' hF).mono fun e w'' ⟨r, he, hA, ho⟩ => ⟨r, he, ho, hA⟩

set_option maxRecDepth 100000 in
set_option maxHeartbeats 4000000 in
theorem secret_any (w : World) (id seed : List Int) (h16 : id.length = 16) (h32 : seed.length = 32) (hid : IsBytes id) (hsd : IsBytes seed) (q n : Nat) (hq : q < 64) (hn : n < 65536) :
    Calls Try.prog 65 #[.agg (u8s (id ++ seed)).toArray, .int .i64 q, .int .i64 n] w fun e w' => e = .returned (.agg (u8s (sha (pre22 id q n ++ 255 :: seed))).toArray) ∧ Own w w' [] := by
  have H := Own.refl w
  have h16' := Lib.hid h16
  have hfr : Hid (∀ w', Calls Try.prog 73 #[.agg (u8s id).toArray, .int .i64 q] w' fun e w'' => ∃ r, e = .returned r ∧ BIn (frontq id q) w'' r ∧ Own w' w'' []) := fun w' => (front_any w' id h16 q hq).mono fun e w'' ⟨r, h1, h2⟩ => ⟨r, h1, h2.bin, h2.own0⟩
  have hfb := Lib.hid (isBytes_frontq hid q)
  have hsb := Lib.hid hsd
  obtain ⟨N, hN⟩ : ∃ N, N = numB n 2 := ⟨_, rfl⟩
  have hnb : Hid (IsBytes N) := by rw [hN]; exact isBytes_numB _ _
  have hnum : Hid (∀ w', Calls Try.prog 18 #[.int .u64 n, .int .i64 2] w' fun e w'' => ∃ r, e = .returned r ∧ BIn N w'' r ∧ Own w' w'' []) := fun w' => by rw [hN]; exact refNum_any w' n 2 (by omega) (by omega)
  have hNl : Hid (N.length = 2) := by show _ = _; rw [hN, length_numB]
  obtain ⟨F, hF⟩ : ∃ F, F = frontq id q := ⟨_, rfl⟩
  rw [← hF] at hfr hfb
  have hFl : Hid (F.length = 20) := by show _ = _; rw [hF]; exact length_frontq h16 q
  have hsz := Lib.hid (size_idL h16)
  obtain ⟨Z, hZ⟩ : ∃ Z, Z = pre22 id q n ++ 255 :: seed := ⟨_, rfl⟩
  have hZ2 : Z = [F, N, [255], seed].flatten := by rw [hZ, pre22_eq, ← hF, ← hN]; simp
  have hZl : Hid (Z.length ≤ 55) := by show _ ≤ _; rw [hZ2]; have := hFl.out; have := hNl.out; simp; omega
  rw [← hZ]
  have hcat : Hid (∀ w' v, LitL [F, N, [255], seed] w' v → Calls Try.prog 40 #[v] w' fun e w'' => ∃ r, e = .returned r ∧ BIn Z w'' r ∧ Own w' w'' []) := fun w' v h => by
    have h3 := catL_any w' v _ h (by rw [← hZ2]; exact Nat.le_trans hZl.out (by decide)) (by simp)
    rwa [← hZ2] at h3
  have hsum : Hid (∀ w' v, BIn Z w' v → Calls Try.prog 39 #[v] w' fun e w'' => e = .returned (.agg (u8s (sha Z)).toArray) ∧ Own w' w'' []) := fun w' v h => refSum_any w' v Z h.2.1 h.2.2 (Nat.le_trans hZl.out (by decide))
  have h32' := Lib.hid h32
  clear hZ hZ2 hF hN hid hsd h16 h32
  go_enter Try.func65, Try.ntmps65
  have tok1 : True := trivial
  go_wp2_with (first
    | (clear tok1; refine st_new rfl (rn_box (cs := u8s (id ++ seed)) H rfl rfl rfl) ?_; clear H; intro b3 w1 hb3 H; have tok2 : True := trivial)
    | (clear tok2; refine st_new rfl (rn_alloc H rfl info_hash) ?_; clear H; intro b6 w2 hb6 H))
  have hc8 : Hid (∀ w', Own w2 w' [] → ∀ j v, (u8s id)[j]? = some v → w'.cell? ⟨b3, 0 + j, none⟩ = some v) := fun w' h j v hj => (H.call0 h).rowL (.tail _ (.head _)) j v hj
  have hc16 : Hid (∀ w', Own w2 w' [] → BIn seed w' (.slice (some ⟨b3, 16, none⟩) 32 32)) := fun w' h => ⟨⟨_, _, by rw [h32'.out]⟩, (H.call0 h).litSub (.tail _ (.head _)) h16'.out.symm h32'.out.symm, fun k hk => by obtain rfl := (blk_some hk).1; exact (H.call0 h).lt (.tail _ (.head _))⟩
  have H2' := Lib.hid H
  clear H
  refine region_grow 13 (by kernel_rfl) (by kernel_rfl) (by kernel_rfl) [.val (.pointer (some ⟨b3, 0, none⟩)), .val (.agg (u8s id).toArray), .val (.int .i64 q), .rel (BIn F), .val (.int .i64 n), .val (.int .u64 n), .rel (BIn N), .rel (BIn [255]), .val (.pointer (some ⟨b3, 16, none⟩)), .val (.slice (some ⟨b3, 16, none⟩) 32 32), .rel (LitL [F, N, [255], seed]), .rel (BIn Z), .val (.agg (u8s (sha Z)).toArray)] rfl ?_
  have tok3 : True := trivial
  try go_frame
  repeat (first
    | (clear tok3; refine sp_run (v := .agg (u8s id).toArray) rfl (fun w' hw' _ => rn_cells rfl rfl rfl rfl hsz.out (hc8.out w' hw')) ?_; go_frame; have tok4 : True := trivial)
    | (clear tok4; refine sp_callR (args := #[.agg (u8s id).toArray, .int .i64 q]) (BIn.mono _) rfl rfl (by simp [Act.eval]) Try.func73 (by kernel_rfl) (by kernel_rfl) (fun w' hw' _ => hfr.out w') ?_; intro v10; go_frame; have tok5 : True := trivial)
    | (clear tok5; refine sp_callR (args := #[.int .u64 n, .int .i64 2]) (BIn.mono _) rfl rfl (by simp [Act.eval]) Try.func18 (by kernel_rfl) (by kernel_rfl) (fun w' hw' _ => hnum.out w') ?_; intro v13; go_frame; have tok6 : True := trivial)
    | (clear tok6; refine sp_rel (BIn.mono _) rfl (fun w' hw' hF => bin_lit (e := 5) rfl rfl (fun w' => by kernel_rfl)) ?_; intro v14; go_frame; have tok7 : True := trivial)
    | (clear tok7; refine sp_run (v := .slice (some ⟨b3, 16, none⟩) 32 32) rfl (fun w' hw' _ => rn_sliceAll rfl rfl size_u8 rfl (by omega)) ?_; go_frame; have tok8 : True := trivial)
    | (clear tok8; refine sp_rel (LitL.mono _) rfl (fun w' hw' hF => ?_) ?_
       · have h10 := hF.1.1.2 _ rfl (List.mem_of_elem_eq_true (by kernel_rfl))
         have h13 := hF.1.2 _ rfl (List.mem_of_elem_eq_true (by kernel_rfl))
         have h14 := hF.2 _ rfl (List.mem_of_elem_eq_true (by kernel_rfl))
         clear hF
         obtain ⟨p10, c10, e10⟩ := h10.1
         obtain ⟨p13, c13, e13⟩ := h13.1
         obtain ⟨p14, c14, e14⟩ := h14.1
         subst e10 e13 e14
         refine litL_build (e := 33) (l := [(.slice p10 F.length c10, F), (.slice p13 N.length c13, N), (.slice p14 [255].length c14, [255]), (.slice (some ⟨b3, 16, none⟩) 32 32, seed)]) rfl rfl rfl (fun x hx => ?_) (fun w' => by kernel_rfl)
         simp only [List.mem_cons, List.not_mem_nil, or_false] at hx
         rcases hx with rfl | rfl | rfl | rfl
         · exact ⟨h10, hfb.out⟩
         · exact ⟨h13, hnb.out⟩
         · exact ⟨h14, isBytes_cons (by omega) (by omega) isBytes_nil⟩
         · exact ⟨hc16.out w' hw', hsb.out⟩
       intro v17; go_frame; have tok9 : True := trivial)
    | (clear tok9; refine sp_callR (args := #[v17]) (BIn.mono _) rfl rfl (by simp [Act.eval]) Try.func40 (by kernel_rfl) (by kernel_rfl) (fun w' hw' hF => hcat.out w' v17 (hF.2 _ rfl (List.mem_of_elem_eq_true (by kernel_rfl)))) ?_; intro v18; go_frame; have tok10 : True := trivial)
    | (clear tok10; refine sp_callN (v := .agg (u8s (sha Z)).toArray) (args := #[v18]) rfl rfl (by simp [Act.eval]) Try.func39 (by kernel_rfl) (by kernel_rfl) (fun w' hw' hF => hsum.out w' v18 (hF.2 _ rfl (List.mem_of_elem_eq_true (by kernel_rfl)))) ?_; go_frame)
    | (refine sp_val (fun w' hw' hF => ?_) ⟨_, rfl, Nat.le_of_ble_eq_true rfl⟩ ?_
       · go_big_quiet_step (fail)
         exact rfl
       try go_frame))
  refine sp_nil ?_
  intro w' hw' hF
  have H := H2'.out.call0 hw'
  clear hw' hF H2' hc8 hc16
  simp only [List.drop_succ_cons, List.drop_zero]
  go_wp2_with (refine st_skip rfl (rn_storeAll (vs := u8s (sha Z)) H rfl rfl rfl (by kernel_rfl) .head (by kernel_rfl) (oneCell_ints _ _)) ?_; clear H; intro w8 H)
  refine fin_cell rfl H rfl (.head _) rfl rfl (by kernel_rfl) rfl ⟨rfl, ?_⟩
  exact H.end0 (by simp; omega)

end Go.Proofs.Ytfihlmnbonnekaa
