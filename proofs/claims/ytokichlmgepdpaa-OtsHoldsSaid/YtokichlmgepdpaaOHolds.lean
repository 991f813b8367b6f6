/- chirographlaw3.OtsHolds: the walk. -/
import Derived.Test.YtokichlmgepdpaaOForms
import Derived.Laws.BitsAllLaws
namespace Go.Proofs.Ytokichlmgepdpaa
open Go.RowKit

theorem xor_facts3 {z x : Int} (hz : 0 ≤ z ∧ z < 256) (hx : 0 ≤ x ∧ x < 256) : (0 ≤ bits .xor .u8 z x ∧ bits .xor .u8 z x < 256) ∧ (x ≠ 0 → bits .xor .u8 z x ≠ z) := by
  rw [u8_xor z x hz.1 hz.2 hx.1 hx.2]
  have h := Nat.xor_lt_two_pow (x := z.toNat) (y := x.toNat) (n := 8) (by omega) (by omega)
  refine ⟨⟨by omega, by omega⟩, fun h0 h1 => h0 ?_⟩
  have h2 : z.toNat ^^^ x.toNat = z.toNat := by omega
  have h3 : z.toNat ^^^ (z.toNat ^^^ x.toNat) = z.toNat ^^^ z.toNat := by rw [h2]
  rw [← Nat.xor_assoc, Nat.xor_self, Nat.zero_xor] at h3
  omega

theorem isBytes_set3 {bs : List Int} {k : Nat} {z : Int} (h : IsBytes bs) (hz : 0 ≤ z ∧ z < 256) : IsBytes (bs.set k z) := by
  rw [isBytes_mem] at h ⊢
  intro x hx
  rcases List.mem_or_eq_of_mem_set hx with h1 | rfl
  · exact h x h1
  · exact hz

theorem BufV.cellAt0 {e : TypeId} {w0 w : World} {L : List Ent} {g n c : Nat} {cs : List Value} (E : BufV e 1 w0 w L (.slice (some ⟨g, 0, none⟩) n c) n cs) {i : Nat} {u : Value} (hu : cs[i]? = some u) : w.cell? ⟨g, i, none⟩ = some u := by
  simpa using E.cellAt hu

theorem candE_set (id seed : List Int) (q k : Nat) (msg : List Int) (n : Nat) (x : Int) (hn : n < 36 + 32 * chN k) (hx : 0 ≤ x ∧ x < 256) (hx0 : x ≠ 0) :
    candE k ((sigOf id seed q k msg).set n (bits .xor .u8 ((sigOf id seed q k msg)[n]?.getD 0) x)) = if n < 4 then 3 else 0 := by
  have hl := length_sigOf id seed q k msg
  have hb := isBytes_sigOf id seed q k msg
  have h4 := take4_sigOf id seed q k msg
  generalize sigOf id seed q k msg = s at *
  have hz := hb n (by omega)
  have hxf := (xor_facts3 hz hx).2 hx0
  unfold candE candOk
  rw [List.length_set, decide_eq_true hl, Bool.true_and]
  by_cases hn4 : n < 4
  · rw [if_pos hn4, decide_eq_false, if_neg (by simp)]
    intro h
    rw [← h4] at h
    have h5 := congrArg (fun l => l[n]?.getD 0) h
    simp only [List.getElem?_take_of_lt hn4] at h5
    rw [List.getElem?_set_self (by omega)] at h5
    exact hxf h5
  · rw [if_neg hn4, List.take_set_of_le (by omega), decide_eq_true h4, if_pos rfl]


set_option maxRecDepth 100000 in
set_option maxHeartbeats 8000000 in
theorem otsHolds_e0 (w : World) (id seed : List Int) (h16 : id.length = 16) (h32 : seed.length = 32) (hidb : IsBytes id) (q0 x0 at0 x1 : Int) (hx1 : 0 ≤ x1 ∧ x1 < 256) (hx0 : x1 = 0) (k : Nat) (hk3 : k = 1 ∨ k = 2 ∨ k = 4) (hwd0 : ∀ w, Calls Try.prog 20 #[.int .i64 x0] w fun e w' => e = .returned (.int .i64 k) ∧ Own w w' [])
    (pm ps : Option Addr) (n m cm cs : Nat) (msg oth : List Int) (hO : Old w (.slice pm n cm) msg) (hmb : IsBytes msg) (hn : n = msg.length) (hn5 : n ≤ 100) (hS : Old w (.slice ps m cs) oth) (hgb : IsBytes oth) (hmn : m = oth.length) (hm5 : m ≤ 100) (heq : msg = oth) :
    Calls Try.prog 8 #[.agg (u8s (id ++ seed)).toArray, .int .i64 q0, .int .i64 x0, .slice pm n cm, .slice ps m cs, .int .i64 at0, .int .u8 x1] w fun e w' => e = .returned (.bool true) ∧ Own w w' [] := by
  have H := Own.refl w
  have hsz := Lib.hid (size_idL h16)
  have hsz48 := Lib.hid (size_secretL h16 h32)
  have hto := Lib.hid otold_any
  have hOw := Lib.hid hO
  have hSw := Lib.hid hS
  have hwd := Lib.hid hwd0
  have hk : k = 1 ∨ k = 2 ∨ k = 4 ∨ k = 8 := by omega
  obtain ⟨q, hqe, hq⟩ := rem_wrap q0 32 (by omega) (by omega)
  have hq32 : q < 32 := by omega
  obtain ⟨hC0, hC1⟩ := chN_le k
  obtain ⟨q2, hq2, hq2l⟩ : ∃ q2 : Nat, ((q : Int) + 1).tmod 32 = (q2 : Int) ∧ q2 < 32 := by
    refine ⟨(q + 1) % 32, ?_, by omega⟩
    rw [Int.tmod_eq_emod_of_nonneg (by omega)]
    omega
  have hch : Hid (∀ w', Calls Try.prog 15 #[.int .i64 k] w' fun e w'' => e = .returned (.int .i64 (chN k)) ∧ Own w' w'' []) := by
    rcases hk with rfl | rfl | rfl | rfl <;> exact fun w' => chains_any w' _
  have hpub : Hid (∀ w', Calls Try.prog 17 #[.agg (u8s (id ++ seed)).toArray, .int .i64 q, .int .i64 k] w' fun e w'' => e = .returned (.tuple #[.agg (u8s (pubOf id seed q k)).toArray, .int .i64 0]) ∧ Own w' w'' []) := fun w' => public_any w' id seed h16 h32 q k hq32 hk
  have hsig : Hid (∀ w' v, Old w' v msg → Calls Try.prog 16 #[.agg (u8s (id ++ seed)).toArray, .int .i64 q, .int .i64 k, v] w' fun e w'' => ∃ b off c, e = .returned (.tuple #[.slice (some ⟨b, off, none⟩) (36 + 32 * chN k) c, .int .i64 0]) ∧ 36 + 32 * chN k ≤ c ∧ Old w'' (.slice (some ⟨b, off, none⟩) (36 + 32 * chN k) c) (sigOf id seed q k msg) ∧ Own w' w'' []) := fun w' v h => signQ_any w' id seed h16 h32 q k hq32 hk v msg h hmb (by omega) rfl
  obtain ⟨sg, hsg⟩ : ∃ s, s = sigOf id seed q k msg := ⟨_, rfl⟩
  have hsgl : Hid (sg.length = 36 + 32 * chN k) := by show _ = _; rw [hsg, length_sigOf]
  have hsgl9 : sg.length ≤ 1000000 := by rw [hsgl.out]; omega
  have hsgb : Hid (IsBytes sg) := by rw [hsg]; exact isBytes_sigOf _ _ _ _ _
  have hR0 : candOf id q k msg sg = pubOf id seed q k := by rw [hsg]; exact cand_sig ..
  have hE0 : candE k sg = 0 := by rw [hsg]; exact candE_sig ..
  have hcan : Hid (∀ w' v u, Old w' v msg → Old w' u sg → Calls Try.prog 18 #[.agg (u8s id).toArray, .int .i64 q, .int .i64 k, v, u] w' fun e w'' => e = .returned (.tuple #[.agg (u8s (candOf id q k msg sg)).toArray, .int .i64 (candE k sg)]) ∧ Own w' w'' []) := fun w' v u h1 h2 => cand_any w' id h16 q k (by omega) hk v u msg sg h1 hmb (by omega) h2 hsgb.out (hsgl9)
  have hcan1 : Hid (∀ w' v u, Old w' v oth → Old w' u sg → Calls Try.prog 18 #[.agg (u8s id).toArray, .int .i64 q, .int .i64 k, v, u] w' fun e w'' => e = .returned (.tuple #[.agg (u8s (candOf id q k oth sg)).toArray, .int .i64 (candE k sg)]) ∧ Own w' w'' []) := fun w' v u h1 h2 => cand_any w' id h16 q k (by omega) hk v u oth sg h1 hgb (by omega) h2 hsgb.out (hsgl9)
  have hcan2 : Hid (∀ w' v u, Old w' v msg → Old w' u sg → Calls Try.prog 18 #[.agg (u8s id).toArray, .int .i64 q2, .int .i64 k, v, u] w' fun e w'' => e = .returned (.tuple #[.agg (u8s (candOf id q2 k msg sg)).toArray, .int .i64 (candE k sg)]) ∧ Own w' w'' []) := fun w' v u h1 h2 => cand_any w' id h16 q2 k (by omega) hk v u msg sg h1 hmb (by omega) h2 hsgb.out (hsgl9)
  have hrcan1 : Hid (∀ w' v u, Old w' v oth → Old w' u sg → Calls Try.prog 21 #[.agg (u8s id).toArray, .int .i64 q, .int .i64 k, v, u] w' fun e w'' => e = .returned (.tuple #[.agg (u8s (candOf id q k oth sg)).toArray, .int .i64 (candE k sg)]) ∧ Own w' w'' []) := fun w' v u h1 h2 => refCand_any w' id h16 hidb q k (by omega) hk v u oth sg h1 hgb (by omega) h2 hsgb.out
  have hrcan2 : Hid (∀ w' v u, Old w' v msg → Old w' u sg → Calls Try.prog 21 #[.agg (u8s id).toArray, .int .i64 q2, .int .i64 k, v, u] w' fun e w'' => e = .returned (.tuple #[.agg (u8s (candOf id q2 k msg sg)).toArray, .int .i64 (candE k sg)]) ∧ Own w' w'' []) := fun w' v u h1 h2 => refCand_any w' id h16 hidb q2 k (by omega) hk v u msg sg h1 hmb (by omega) h2 hsgb.out
  rw [hR0, hE0] at hcan
  rw [hE0] at hcan1 hcan2 hrcan1 hrcan2
  have hsmo : Hid (∀ w' v u, Old w' v msg → Old w' u oth → Calls Try.prog 19 #[v, u] w' fun e w'' => e = .returned (.bool true) ∧ Own w' w'' []) := fun w' v u h1 h2 => by
    have h := same_any w' v u _ _ h1.1 h2.1 hmb hgb
    rw [decide_eq_true heq] at h
    exact h
  obtain ⟨R, hR⟩ : ∃ R, R = pubOf id seed q k := ⟨_, rfl⟩
  have hRl : Hid (R.length = 32) := by show _ = _; rw [hR]; rfl
  have hK1R : candOf id q k oth sg = R := by rw [← heq, hR0, hR]
  rw [hK1R] at hcan1 hrcan1
  obtain ⟨K2, hK2⟩ : ∃ R, R = candOf id q2 k msg sg := ⟨_, rfl⟩
  have hK2l : Hid (K2.length = 32) := by show _ = _; rw [hK2]; exact length_candOf _ _ _ _ _
  simp only [← hR, ← hK2, ← hsg] at hpub hsig hcan hcan2 hrcan2
  have eR : ∀ w, (Op.equalIn 10000 23 (.agg (u8s R).toArray) (.agg (u8s R).toArray)).run Try.prog w = .ok true w := fun w => by rw [eqHash w _ _ hRl.out hRl.out]; simp
  have eK2 : ∀ w, (Op.equalIn 10000 23 (.agg (u8s K2).toArray) (.agg (u8s K2).toArray)).run Try.prog w = .ok true w := fun w => by rw [eqHash w _ _ hK2l.out hK2l.out]; simp
  obtain ⟨C, hC⟩ : ∃ C, C = chN k := ⟨_, rfl⟩
  rw [← hC] at hC0 hC1 hch hsgl
  simp only [← hC] at hsig
  subst hx0
  clear hO hmb hn hS hgb hmn heq h16 h32 hwd0 hsg hq hk hk3 hR0 hE0 hR hK2 hC hidb hsgl9  hK1R 
  go_enter Try.func8, Try.ntmps8
  have tok1 : True := trivial
  go_wp2_with (first
    | (clear tok1; refine st_new rfl (rn_box (cs := u8s (id ++ seed)) H rfl rfl rfl) ?_; clear H; intro b7 w1 hb7 H; have tok2 : True := trivial)
    | (clear tok2; go_at_call 20; refine (hwd.out _).mono ?_; rintro e w2 ⟨rfl, h3⟩; have H2 := H.call0 h3; clear H h3; have H := H2; clear H2; have tok3 : True := trivial)
    | (clear tok3; refine st_val rfl (rn_loadAll (cs := u8s (id ++ seed)) H rfl rfl (.head _) rfl rfl hsz48.out) ?_; have tok4 : True := trivial)
    | (clear tok4; go_at_call 17; refine (hpub.out _).mono ?_; rintro e w3 ⟨rfl, h3⟩; have H2 := H.call0 h3; clear H h3; have H := H2; clear H2; have tok5 : True := trivial)
    | (clear tok5; refine st_new rfl (rn_alloc H rfl info_hash) ?_; clear H; intro b17 w4 hb17 H; have tok6 : True := trivial)
    | (clear tok6; refine st_skip rfl (rn_storeAll (vs := u8s R) H rfl rfl rfl (size_hashL hRl.out) .head (by rw [length_ints, length_ints, hRl.out]; rfl) (oneCell_ints _ _)) ?_; clear H; intro w5 H; have tok7 : True := trivial)
    | (clear tok7; refine st_val rfl (rn_loadAll (cs := u8s (id ++ seed)) H rfl rfl (.tail _ (.head _)) rfl rfl hsz48.out) ?_; have tok8 : True := trivial)
    | (clear tok8; go_at_call 16; refine (hsig.out _ _ (hOw.out.mv H (by simp; omega))).mono ?_; rintro e w6 ⟨pa, oa, ca, rfl, gca, hA, h3⟩; have A6 := Lib.hid hA; have H2 := H.call0 h3; have HW := Lib.hid H2; have M6 := Lib.hid (hOw.out.mv H2 (by simp; omega)); have S6 := Lib.hid (hSw.out.mv H2 (by simp; omega));
        have c7i := Lib.hid (fun (w' : World) (L : List Ent) (h : Own w6 w' L) (hn : ∀ k ∈ L.map (·.1), w6.heap.size ≤ k) => show ∀ j v, (u8s id)[j]? = some v → w'.cell? ⟨b7, 0 + j, none⟩ = some v from fun j v hj => h.old (HW.out.rowL (.tail _ (.head _)) j v hj) (fun hm => by have := hn _ hm; have := HW.out.lt (.tail _ (.head _)); omega));
        have c17 := Lib.hid (fun (w' : World) (L : List Ent) (h : Own w6 w' L) (hn : ∀ k ∈ L.map (·.1), w6.heap.size ≤ k) => show ∀ j v, (u8s R)[j]? = some v → w'.cell? ⟨b17, 0 + j, none⟩ = some v from fun j v hj => h.old (by rw [HW.out.cell (.head _), Nat.zero_add]; exact hj) (fun hm => by have := hn _ hm; have := HW.out.lt (.head _); omega));
        clear H H2 h3 hA; have H := Own.refl w6; have tok9 : True := trivial)
    | (clear tok9; go_at_call 15; refine (hch.out _).mono ?_; rintro e w8 ⟨rfl, h3⟩; have H2 := H.call0 h3; clear H h3; have H := H2; clear H2; have tok10 : True := trivial)
    | (clear tok10; refine st_val rfl (rn_cells rfl rfl rfl rfl hsz.out (c7i.out _ _ H (by simp))) ?_; have tok11 : True := trivial)
    | (clear tok11; go_at_call 18; refine (hcan.out _ _ _ (M6.out.mv H (by simp)) (A6.out.mv H (by simp))).mono ?_; rintro e w9 ⟨rfl, h3⟩; have H2 := H.call0 h3; clear H h3; have H := H2; clear H2; have tok12 : True := trivial)
    | (clear tok12; refine st_new rfl (rn_alloc H rfl info_hash) ?_; clear H; intro b21 w10 hb21 H; have tok13 : True := trivial)
    | (clear tok13; refine st_skip rfl (rn_storeAll (vs := u8s R) H rfl rfl rfl (size_hashL hRl.out) .head (by rw [length_ints, length_ints, hRl.out]; rfl) (oneCell_ints _ _)) ?_; clear H; intro w11 H; have tok14 : True := trivial)
    | (clear tok14; refine st_val rfl (rn_cells rfl rfl rfl rfl hsz.out (c7i.out _ _ H (by simp; omega))) ?_; have tok15 : True := trivial)
    | (clear tok15; go_at_call 18; refine (hcan1.out _ _ _ (S6.out.mv H (by simp; omega)) (A6.out.mv H (by simp; omega))).mono ?_; rintro e w12 ⟨rfl, h3⟩; have H2 := H.call0 h3; clear H h3; have H := H2; clear H2; have tok16 : True := trivial)
    | (clear tok16; refine st_new rfl (rn_alloc H rfl info_hash) ?_; clear H; intro b23 w13 hb23 H; have tok17 : True := trivial)
    | (clear tok17; refine st_skip rfl (rn_storeAll (vs := u8s R) H rfl rfl rfl (size_hashL hRl.out) .head (by rw [length_ints, length_ints, hRl.out]; rfl) (oneCell_ints _ _)) ?_; clear H; intro w14 H; have tok18 : True := trivial)
    | (clear tok18; refine st_val rfl (rn_cells rfl rfl rfl rfl hsz.out (c7i.out _ _ H (by simp; omega))) ?_; have tok19 : True := trivial)
    | (clear tok19; go_at_call 18; refine (hcan2.out _ _ _ (M6.out.mv H (by simp; omega)) (A6.out.mv H (by simp; omega))).mono ?_; rintro e w15 ⟨rfl, h3⟩; have H2 := H.call0 h3; clear H h3; have H := H2; clear H2; have tok20 : True := trivial)
    | (clear tok20; refine st_new rfl (rn_alloc H rfl info_hash) ?_; clear H; intro b25 w16 hb25 H; have tok21 : True := trivial)
    | (clear tok21; refine st_skip rfl (rn_storeAll (vs := u8s K2) H rfl rfl rfl (size_hashL hK2l.out) .head (by rw [length_ints, length_ints, hK2l.out]; rfl) (oneCell_ints _ _)) ?_; clear H; intro w17 H; have tok22 : True := trivial)
    | (clear tok22; refine st_val rfl (rn_cells rfl rfl rfl rfl hsz.out (c7i.out _ _ H (by simp; omega))) ?_; have tok23 : True := trivial)
    | (clear tok23; go_at_call 21; refine (hrcan1.out _ _ _ (S6.out.mv H (by simp; omega)) (A6.out.mv H (by simp; omega))).mono ?_; rintro e w18 ⟨rfl, h3⟩; have H2 := H.call0 h3; clear H h3; have H := H2; clear H2; have tok24 : True := trivial)
    | (clear tok24; refine st_new rfl (rn_alloc H rfl info_hash) ?_; clear H; intro b27 w19 hb27 H; have tok25 : True := trivial)
    | (clear tok25; refine st_skip rfl (rn_storeAll (vs := u8s R) H rfl rfl rfl (size_hashL hRl.out) .head (by rw [length_ints, length_ints, hRl.out]; rfl) (oneCell_ints _ _)) ?_; clear H; intro w20 H; have tok26 : True := trivial)
    | (clear tok26; refine st_val rfl (rn_cells rfl rfl rfl rfl hsz.out (c7i.out _ _ H (by simp; omega))) ?_; have tok27 : True := trivial)
    | (clear tok27; go_at_call 21; refine (hrcan2.out _ _ _ (M6.out.mv H (by simp; omega)) (A6.out.mv H (by simp; omega))).mono ?_; rintro e w21 ⟨rfl, h3⟩; have H2 := H.call0 h3; clear H h3; have H := H2; clear H2; have tok28 : True := trivial)
    | (clear tok28; refine st_new rfl (rn_alloc H rfl info_hash) ?_; clear H; intro b29 w22 hb29 H; have tok29 : True := trivial)
    | (clear tok29; refine st_skip rfl (rn_storeAll (vs := u8s K2) H rfl rfl rfl (size_hashL hK2l.out) .head (by rw [length_ints, length_ints, hK2l.out]; rfl) (oneCell_ints _ _)) ?_; clear H; intro w23 H; have tok30 : True := trivial)
    | (clear tok30; refine st_valG rfl (rn_loadAll (cs := u8s R) H rfl rfl (.tail _ (.tail _ (.tail _ (.tail _ (.head _))))) rfl rfl (size_hashL hRl.out)) ?_; have tok31 : True := trivial)
    | (clear tok31; refine st_valG rfl (rn_cells rfl rfl rfl rfl (size_hashL hRl.out) (c17.out _ _ H (by simp; omega))) ?_; have tok32 : True := trivial)
    | (clear tok32; refine st_valG rfl (rn_loadAll (cs := u8s R) H rfl rfl (.tail _ (.tail _ (.tail _ (.head _)))) rfl rfl (size_hashL hRl.out)) ?_; have tok33 : True := trivial)
    | (clear tok33; refine st_valG rfl (rn_loadAll (cs := u8s R) H rfl rfl (.tail _ (.head _)) rfl rfl (size_hashL hRl.out)) ?_; have tok34 : True := trivial)
    | (clear tok34; refine st_valG rfl (rn_loadAll (cs := u8s K2) H rfl rfl (.tail _ (.tail _ (.head _))) rfl rfl (size_hashL hK2l.out)) ?_; have tok35 : True := trivial)
    | (clear tok35; refine st_valG rfl (rn_loadAll (cs := u8s K2) H rfl rfl (.head _) rfl rfl (size_hashL hK2l.out)) ?_; have tok36 : True := trivial)
    | (clear tok36; go_at_call 19; refine (hsmo.out _ _ _ (M6.out.mv H (by simp; omega)) (S6.out.mv H (by simp; omega))).mono ?_; rintro e w24 ⟨rfl, h3⟩; have H2 := H.call0 h3; clear H h3; have H := H2; clear H2; have tok37 : True := trivial)
    | (clear tok37; refine st_valG rfl (rn_loadAll (cs := u8s R) H rfl rfl (.tail _ (.tail _ (.tail _ (.head _)))) rfl rfl (size_hashL hRl.out)) ?_; have tok38 : True := trivial)
    | (clear tok38; refine st_valG rfl (rn_cells rfl rfl rfl rfl (size_hashL hRl.out) (c17.out _ _ H (by simp; omega))) ?_; have tok39 : True := trivial)
    | (clear tok39; go_at_call 14; refine (hto.out _).mono ?_; rintro e w2 ⟨rfl, h3⟩; have H2 := H.call0 h3; clear H h3; have H := H2; clear H2; have tok40 : True := trivial))
  have h1 := Lib.hid (H.end0 (by simp; omega))
  have hw := Lib.hid (HW.out.end0 (by simp; omega))
  go_ret
  exact ⟨rfl, hw.out.trans h1.out⟩

set_option maxRecDepth 100000 in
set_option maxHeartbeats 8000000 in
theorem otsHolds_e1 (w : World) (id seed : List Int) (h16 : id.length = 16) (h32 : seed.length = 32) (hidb : IsBytes id) (q0 x0 at0 x1 : Int) (hx1 : 0 ≤ x1 ∧ x1 < 256) (hx0 : ¬ x1 = 0) (k : Nat) (hk3 : k = 1 ∨ k = 2 ∨ k = 4) (hwd0 : ∀ w, Calls Try.prog 20 #[.int .i64 x0] w fun e w' => e = .returned (.int .i64 k) ∧ Own w w' [])
    (pm ps : Option Addr) (n m cm cs : Nat) (msg oth : List Int) (hO : Old w (.slice pm n cm) msg) (hmb : IsBytes msg) (hn : n = msg.length) (hn5 : n ≤ 100) (hS : Old w (.slice ps m cs) oth) (hgb : IsBytes oth) (hmn : m = oth.length) (hm5 : m ≤ 100) (heq : msg = oth) :
    Calls Try.prog 8 #[.agg (u8s (id ++ seed)).toArray, .int .i64 q0, .int .i64 x0, .slice pm n cm, .slice ps m cs, .int .i64 at0, .int .u8 x1] w fun e w' => e = .returned (.bool true) ∧ Own w w' [] := by
  have H := Own.refl w
  have hsz := Lib.hid (size_idL h16)
  have hsz48 := Lib.hid (size_secretL h16 h32)
  have hto := Lib.hid otold_any
  have hOw := Lib.hid hO
  have hSw := Lib.hid hS
  have hwd := Lib.hid hwd0
  have hk : k = 1 ∨ k = 2 ∨ k = 4 ∨ k = 8 := by omega
  obtain ⟨q, hqe, hq⟩ := rem_wrap q0 32 (by omega) (by omega)
  have hq32 : q < 32 := by omega
  obtain ⟨hC0, hC1⟩ := chN_le k
  obtain ⟨q2, hq2, hq2l⟩ : ∃ q2 : Nat, ((q : Int) + 1).tmod 32 = (q2 : Int) ∧ q2 < 32 := by
    refine ⟨(q + 1) % 32, ?_, by omega⟩
    rw [Int.tmod_eq_emod_of_nonneg (by omega)]
    omega
  have hch : Hid (∀ w', Calls Try.prog 15 #[.int .i64 k] w' fun e w'' => e = .returned (.int .i64 (chN k)) ∧ Own w' w'' []) := by
    rcases hk with rfl | rfl | rfl | rfl <;> exact fun w' => chains_any w' _
  have hpub : Hid (∀ w', Calls Try.prog 17 #[.agg (u8s (id ++ seed)).toArray, .int .i64 q, .int .i64 k] w' fun e w'' => e = .returned (.tuple #[.agg (u8s (pubOf id seed q k)).toArray, .int .i64 0]) ∧ Own w' w'' []) := fun w' => public_any w' id seed h16 h32 q k hq32 hk
  have hsig : Hid (∀ w' v, Old w' v msg → Calls Try.prog 16 #[.agg (u8s (id ++ seed)).toArray, .int .i64 q, .int .i64 k, v] w' fun e w'' => ∃ b off c, e = .returned (.tuple #[.slice (some ⟨b, off, none⟩) (36 + 32 * chN k) c, .int .i64 0]) ∧ 36 + 32 * chN k ≤ c ∧ Old w'' (.slice (some ⟨b, off, none⟩) (36 + 32 * chN k) c) (sigOf id seed q k msg) ∧ Own w' w'' []) := fun w' v h => signQ_any w' id seed h16 h32 q k hq32 hk v msg h hmb (by omega) rfl
  obtain ⟨sg, hsg⟩ : ∃ s, s = sigOf id seed q k msg := ⟨_, rfl⟩
  have hsgl : Hid (sg.length = 36 + 32 * chN k) := by show _ = _; rw [hsg, length_sigOf]
  have hsgl9 : sg.length ≤ 1000000 := by rw [hsgl.out]; omega
  have hsgb : Hid (IsBytes sg) := by rw [hsg]; exact isBytes_sigOf _ _ _ _ _
  have hR0 : candOf id q k msg sg = pubOf id seed q k := by rw [hsg]; exact cand_sig ..
  have hE0 : candE k sg = 0 := by rw [hsg]; exact candE_sig ..
  have hcan : Hid (∀ w' v u, Old w' v msg → Old w' u sg → Calls Try.prog 18 #[.agg (u8s id).toArray, .int .i64 q, .int .i64 k, v, u] w' fun e w'' => e = .returned (.tuple #[.agg (u8s (candOf id q k msg sg)).toArray, .int .i64 (candE k sg)]) ∧ Own w' w'' []) := fun w' v u h1 h2 => cand_any w' id h16 q k (by omega) hk v u msg sg h1 hmb (by omega) h2 hsgb.out (hsgl9)
  have hcan1 : Hid (∀ w' v u, Old w' v oth → Old w' u sg → Calls Try.prog 18 #[.agg (u8s id).toArray, .int .i64 q, .int .i64 k, v, u] w' fun e w'' => e = .returned (.tuple #[.agg (u8s (candOf id q k oth sg)).toArray, .int .i64 (candE k sg)]) ∧ Own w' w'' []) := fun w' v u h1 h2 => cand_any w' id h16 q k (by omega) hk v u oth sg h1 hgb (by omega) h2 hsgb.out (hsgl9)
  have hcan2 : Hid (∀ w' v u, Old w' v msg → Old w' u sg → Calls Try.prog 18 #[.agg (u8s id).toArray, .int .i64 q2, .int .i64 k, v, u] w' fun e w'' => e = .returned (.tuple #[.agg (u8s (candOf id q2 k msg sg)).toArray, .int .i64 (candE k sg)]) ∧ Own w' w'' []) := fun w' v u h1 h2 => cand_any w' id h16 q2 k (by omega) hk v u msg sg h1 hmb (by omega) h2 hsgb.out (hsgl9)
  have hrcan1 : Hid (∀ w' v u, Old w' v oth → Old w' u sg → Calls Try.prog 21 #[.agg (u8s id).toArray, .int .i64 q, .int .i64 k, v, u] w' fun e w'' => e = .returned (.tuple #[.agg (u8s (candOf id q k oth sg)).toArray, .int .i64 (candE k sg)]) ∧ Own w' w'' []) := fun w' v u h1 h2 => refCand_any w' id h16 hidb q k (by omega) hk v u oth sg h1 hgb (by omega) h2 hsgb.out
  have hrcan2 : Hid (∀ w' v u, Old w' v msg → Old w' u sg → Calls Try.prog 21 #[.agg (u8s id).toArray, .int .i64 q2, .int .i64 k, v, u] w' fun e w'' => e = .returned (.tuple #[.agg (u8s (candOf id q2 k msg sg)).toArray, .int .i64 (candE k sg)]) ∧ Own w' w'' []) := fun w' v u h1 h2 => refCand_any w' id h16 hidb q2 k (by omega) hk v u msg sg h1 hmb (by omega) h2 hsgb.out
  rw [hR0, hE0] at hcan
  rw [hE0] at hcan1 hcan2 hrcan1 hrcan2
  have hsmo : Hid (∀ w' v u, Old w' v msg → Old w' u oth → Calls Try.prog 19 #[v, u] w' fun e w'' => e = .returned (.bool true) ∧ Own w' w'' []) := fun w' v u h1 h2 => by
    have h := same_any w' v u _ _ h1.1 h2.1 hmb hgb
    rw [decide_eq_true heq] at h
    exact h
  obtain ⟨n1, hn1, hn1l⟩ := rem_wrap at0 (36 + 32 * (chN k : Int)) (by omega) (by omega)
  have hn1l' : n1 < 36 + 32 * chN k := by omega
  have hn1l2 : n1 < 36 + 32 * chN k := by omega
  obtain ⟨z, hz⟩ : ∃ z, sg[n1]?.getD 0 = z := ⟨_, rfl⟩
  have hz0 : Hid (0 ≤ z ∧ z < 256) := by have := hsgb.out n1 (by rw [hsgl.out]; exact hn1l'); rw [hz] at this; exact this
  have hzg : Hid ((u8s sg)[n1]? = some (.int .u8 z)) := by show _ = _; rw [← hz]; exact ints_get (by rw [hsgl.out]; exact hn1l')
  obtain ⟨ys, hys⟩ : ∃ ys, sg.set n1 (bits .xor .u8 z x1) = ys := ⟨_, rfl⟩
  have hys' := Lib.hid hys
  have hyl : Hid (ys.length = 36 + 32 * chN k) := by show _ = _; rw [← hys, List.length_set, hsgl.out]
  have hyl9 : ys.length ≤ 1000000 := by rw [hyl.out]; omega
  have hyb : Hid (IsBytes ys) := by rw [← hys]; exact isBytes_set3 hsgb.out (xor_facts3 hz0.out hx1).1
  have hEy : candE k ys = if n1 < 4 then 3 else 0 := by rw [← hys, ← hz, hsg]; exact candE_set _ _ _ _ _ _ _ hn1l' hx1 hx0
  obtain ⟨bb, hbb⟩ : ∃ b, b = decide (n1 < 4) := ⟨_, rfl⟩
  have hb1 : (candE k ys == 3) = bb := by rw [hEy, hbb]; by_cases h : n1 < 4 <;> simp [h]
  have hb2 : decide ((n1 : Int) < 4) = bb := by rw [hbb]; congr 1; rw [eq_iff_iff]; omega
  have hcan3 : Hid (∀ w' v u, Old w' v msg → Old w' u ys → Calls Try.prog 18 #[.agg (u8s id).toArray, .int .i64 q, .int .i64 k, v, u] w' fun e w'' => e = .returned (.tuple #[.agg (u8s (candOf id q k msg ys)).toArray, .int .i64 (candE k ys)]) ∧ Own w' w'' []) := fun w' v u h1 h2 => cand_any w' id h16 q k (by omega) hk v u msg ys h1 hmb (by omega) h2 hyb.out (hyl9)
  have hrcan3 : Hid (∀ w' v u, Old w' v msg → Old w' u ys → Calls Try.prog 21 #[.agg (u8s id).toArray, .int .i64 q, .int .i64 k, v, u] w' fun e w'' => e = .returned (.tuple #[.agg (u8s (candOf id q k msg ys)).toArray, .int .i64 (candE k ys)]) ∧ Own w' w'' []) := fun w' v u h1 h2 => refCand_any w' id h16 hidb q k (by omega) hk v u msg ys h1 hmb (by omega) h2 hyb.out
  obtain ⟨K3, hK3⟩ : ∃ R, R = candOf id q k msg ys := ⟨_, rfl⟩
  have hK3l : Hid (K3.length = 32) := by show _ = _; rw [hK3]; exact length_candOf _ _ _ _ _
  obtain ⟨E3, hE3⟩ : ∃ R, R = candE k ys := ⟨_, rfl⟩
  simp only [← hK3, ← hE3] at hcan3 hrcan3 hb1
  have eK3 : ∀ w, (Op.equalIn 10000 23 (.agg (u8s K3).toArray) (.agg (u8s K3).toArray)).run Try.prog w = .ok true w := fun w => by rw [eqHash w _ _ hK3l.out hK3l.out]; simp
  obtain ⟨R, hR⟩ : ∃ R, R = pubOf id seed q k := ⟨_, rfl⟩
  have hRl : Hid (R.length = 32) := by show _ = _; rw [hR]; rfl
  have hK1R : candOf id q k oth sg = R := by rw [← heq, hR0, hR]
  rw [hK1R] at hcan1 hrcan1
  obtain ⟨K2, hK2⟩ : ∃ R, R = candOf id q2 k msg sg := ⟨_, rfl⟩
  have hK2l : Hid (K2.length = 32) := by show _ = _; rw [hK2]; exact length_candOf _ _ _ _ _
  simp only [← hR, ← hK2, ← hsg] at hpub hsig hcan hcan2 hrcan2
  have eR : ∀ w, (Op.equalIn 10000 23 (.agg (u8s R).toArray) (.agg (u8s R).toArray)).run Try.prog w = .ok true w := fun w => by rw [eqHash w _ _ hRl.out hRl.out]; simp
  have eK2 : ∀ w, (Op.equalIn 10000 23 (.agg (u8s K2).toArray) (.agg (u8s K2).toArray)).run Try.prog w = .ok true w := fun w => by rw [eqHash w _ _ hK2l.out hK2l.out]; simp
  obtain ⟨C, hC⟩ : ∃ C, C = chN k := ⟨_, rfl⟩
  rw [← hC] at hC0 hC1 hch hsgl hyl hn1 hn1l2
  simp only [← hC] at hsig

  clear hO hmb hn hS hgb hmn heq h16 h32 hwd0 hsg hq hk hk3 hR0 hE0 hR hK2 hC hidb hsgl9 hn1l hn1l' hz hys hyl9 hEy hbb hK3 hE3 hK1R 
  go_enter Try.func8, Try.ntmps8
  have tok1 : True := trivial
  go_wp2_with (first
    | (clear tok1; refine st_new rfl (rn_box (cs := u8s (id ++ seed)) H rfl rfl rfl) ?_; clear H; intro b7 w1 hb7 H; have tok2 : True := trivial)
    | (clear tok2; go_at_call 20; refine (hwd.out _).mono ?_; rintro e w2 ⟨rfl, h3⟩; have H2 := H.call0 h3; clear H h3; have H := H2; clear H2; have tok3 : True := trivial)
    | (clear tok3; refine st_val rfl (rn_loadAll (cs := u8s (id ++ seed)) H rfl rfl (.head _) rfl rfl hsz48.out) ?_; have tok4 : True := trivial)
    | (clear tok4; go_at_call 17; refine (hpub.out _).mono ?_; rintro e w3 ⟨rfl, h3⟩; have H2 := H.call0 h3; clear H h3; have H := H2; clear H2; have tok5 : True := trivial)
    | (clear tok5; refine st_new rfl (rn_alloc H rfl info_hash) ?_; clear H; intro b17 w4 hb17 H; have tok6 : True := trivial)
    | (clear tok6; refine st_skip rfl (rn_storeAll (vs := u8s R) H rfl rfl rfl (size_hashL hRl.out) .head (by rw [length_ints, length_ints, hRl.out]; rfl) (oneCell_ints _ _)) ?_; clear H; intro w5 H; have tok7 : True := trivial)
    | (clear tok7; refine st_val rfl (rn_loadAll (cs := u8s (id ++ seed)) H rfl rfl (.tail _ (.head _)) rfl rfl hsz48.out) ?_; have tok8 : True := trivial)
    | (clear tok8; go_at_call 16; refine (hsig.out _ _ (hOw.out.mv H (by simp; omega))).mono ?_; rintro e w6 ⟨pa, oa, ca, rfl, gca, hA, h3⟩; have A6 := Lib.hid hA; have H2 := H.call0 h3; have HW := Lib.hid H2; have M6 := Lib.hid (hOw.out.mv H2 (by simp; omega)); have S6 := Lib.hid (hSw.out.mv H2 (by simp; omega));
        have c7i := Lib.hid (fun (w' : World) (L : List Ent) (h : Own w6 w' L) (hn : ∀ k ∈ L.map (·.1), w6.heap.size ≤ k) => show ∀ j v, (u8s id)[j]? = some v → w'.cell? ⟨b7, 0 + j, none⟩ = some v from fun j v hj => h.old (HW.out.rowL (.tail _ (.head _)) j v hj) (fun hm => by have := hn _ hm; have := HW.out.lt (.tail _ (.head _)); omega));
        have c17 := Lib.hid (fun (w' : World) (L : List Ent) (h : Own w6 w' L) (hn : ∀ k ∈ L.map (·.1), w6.heap.size ≤ k) => show ∀ j v, (u8s R)[j]? = some v → w'.cell? ⟨b17, 0 + j, none⟩ = some v from fun j v hj => h.old (by rw [HW.out.cell (.head _), Nat.zero_add]; exact hj) (fun hm => by have := hn _ hm; have := HW.out.lt (.head _); omega));
        clear H H2 h3 hA; have H := Own.refl w6; have tok9 : True := trivial)
    | (clear tok9; go_at_call 15; refine (hch.out _).mono ?_; rintro e w8 ⟨rfl, h3⟩; have H2 := H.call0 h3; clear H h3; have H := H2; clear H2; have tok10 : True := trivial)
    | (clear tok10; refine st_val rfl (rn_cells rfl rfl rfl rfl hsz.out (c7i.out _ _ H (by simp))) ?_; have tok11 : True := trivial)
    | (clear tok11; go_at_call 18; refine (hcan.out _ _ _ (M6.out.mv H (by simp)) (A6.out.mv H (by simp))).mono ?_; rintro e w9 ⟨rfl, h3⟩; have H2 := H.call0 h3; clear H h3; have H := H2; clear H2; have tok12 : True := trivial)
    | (clear tok12; refine st_new rfl (rn_alloc H rfl info_hash) ?_; clear H; intro b21 w10 hb21 H; have tok13 : True := trivial)
    | (clear tok13; refine st_skip rfl (rn_storeAll (vs := u8s R) H rfl rfl rfl (size_hashL hRl.out) .head (by rw [length_ints, length_ints, hRl.out]; rfl) (oneCell_ints _ _)) ?_; clear H; intro w11 H; have tok14 : True := trivial)
    | (clear tok14; refine st_val rfl (rn_cells rfl rfl rfl rfl hsz.out (c7i.out _ _ H (by simp; omega))) ?_; have tok15 : True := trivial)
    | (clear tok15; go_at_call 18; refine (hcan1.out _ _ _ (S6.out.mv H (by simp; omega)) (A6.out.mv H (by simp; omega))).mono ?_; rintro e w12 ⟨rfl, h3⟩; have H2 := H.call0 h3; clear H h3; have H := H2; clear H2; have tok16 : True := trivial)
    | (clear tok16; refine st_new rfl (rn_alloc H rfl info_hash) ?_; clear H; intro b23 w13 hb23 H; have tok17 : True := trivial)
    | (clear tok17; refine st_skip rfl (rn_storeAll (vs := u8s R) H rfl rfl rfl (size_hashL hRl.out) .head (by rw [length_ints, length_ints, hRl.out]; rfl) (oneCell_ints _ _)) ?_; clear H; intro w14 H; have tok18 : True := trivial)
    | (clear tok18; refine st_val rfl (rn_cells rfl rfl rfl rfl hsz.out (c7i.out _ _ H (by simp; omega))) ?_; have tok19 : True := trivial)
    | (clear tok19; go_at_call 18; refine (hcan2.out _ _ _ (M6.out.mv H (by simp; omega)) (A6.out.mv H (by simp; omega))).mono ?_; rintro e w15 ⟨rfl, h3⟩; have H2 := H.call0 h3; clear H h3; have H := H2; clear H2; have tok20 : True := trivial)
    | (clear tok20; refine st_new rfl (rn_alloc H rfl info_hash) ?_; clear H; intro b25 w16 hb25 H; have tok21 : True := trivial)
    | (clear tok21; refine st_skip rfl (rn_storeAll (vs := u8s K2) H rfl rfl rfl (size_hashL hK2l.out) .head (by rw [length_ints, length_ints, hK2l.out]; rfl) (oneCell_ints _ _)) ?_; clear H; intro w17 H; have tok22 : True := trivial)
    | (clear tok22; refine st_val rfl (rn_cells rfl rfl rfl rfl hsz.out (c7i.out _ _ H (by simp; omega))) ?_; have tok23 : True := trivial)
    | (clear tok23; go_at_call 21; refine (hrcan1.out _ _ _ (S6.out.mv H (by simp; omega)) (A6.out.mv H (by simp; omega))).mono ?_; rintro e w18 ⟨rfl, h3⟩; have H2 := H.call0 h3; clear H h3; have H := H2; clear H2; have tok24 : True := trivial)
    | (clear tok24; refine st_new rfl (rn_alloc H rfl info_hash) ?_; clear H; intro b27 w19 hb27 H; have tok25 : True := trivial)
    | (clear tok25; refine st_skip rfl (rn_storeAll (vs := u8s R) H rfl rfl rfl (size_hashL hRl.out) .head (by rw [length_ints, length_ints, hRl.out]; rfl) (oneCell_ints _ _)) ?_; clear H; intro w20 H; have tok26 : True := trivial)
    | (clear tok26; refine st_val rfl (rn_cells rfl rfl rfl rfl hsz.out (c7i.out _ _ H (by simp; omega))) ?_; have tok27 : True := trivial)
    | (clear tok27; go_at_call 21; refine (hrcan2.out _ _ _ (M6.out.mv H (by simp; omega)) (A6.out.mv H (by simp; omega))).mono ?_; rintro e w21 ⟨rfl, h3⟩; have H2 := H.call0 h3; clear H h3; have H := H2; clear H2; have tok28 : True := trivial)
    | (clear tok28; refine st_new rfl (rn_alloc H rfl info_hash) ?_; clear H; intro b29 w22 hb29 H; have tok29 : True := trivial)
    | (clear tok29; refine st_skip rfl (rn_storeAll (vs := u8s K2) H rfl rfl rfl (size_hashL hK2l.out) .head (by rw [length_ints, length_ints, hK2l.out]; rfl) (oneCell_ints _ _)) ?_; clear H; intro w23 H; have tok30 : True := trivial)
    | (clear tok30; refine st_valG rfl (rn_loadAll (cs := u8s R) H rfl rfl (.tail _ (.tail _ (.tail _ (.tail _ (.head _))))) rfl rfl (size_hashL hRl.out)) ?_; have tok31 : True := trivial)
    | (clear tok31; refine st_valG rfl (rn_cells rfl rfl rfl rfl (size_hashL hRl.out) (c17.out _ _ H (by simp; omega))) ?_; have tok32 : True := trivial)
    | (clear tok32; refine st_valG rfl (rn_loadAll (cs := u8s R) H rfl rfl (.tail _ (.tail _ (.tail _ (.head _)))) rfl rfl (size_hashL hRl.out)) ?_; have tok33 : True := trivial)
    | (clear tok33; refine st_valG rfl (rn_loadAll (cs := u8s R) H rfl rfl (.tail _ (.head _)) rfl rfl (size_hashL hRl.out)) ?_; have tok34 : True := trivial)
    | (clear tok34; refine st_valG rfl (rn_loadAll (cs := u8s K2) H rfl rfl (.tail _ (.tail _ (.head _))) rfl rfl (size_hashL hK2l.out)) ?_; have tok35 : True := trivial)
    | (clear tok35; refine st_valG rfl (rn_loadAll (cs := u8s K2) H rfl rfl (.head _) rfl rfl (size_hashL hK2l.out)) ?_; have tok36 : True := trivial)
    | (clear tok36; go_at_call 19; refine (hsmo.out _ _ _ (M6.out.mv H (by simp; omega)) (S6.out.mv H (by simp; omega))).mono ?_; rintro e w24 ⟨rfl, h3⟩; have H2 := H.call0 h3; clear H h3; have H := H2; clear H2; have tok37 : True := trivial)
    | (clear tok37; refine st_valG rfl (rn_loadAll (cs := u8s R) H rfl rfl (.tail _ (.tail _ (.tail _ (.head _)))) rfl rfl (size_hashL hRl.out)) ?_; have tok38 : True := trivial)
    | (clear tok38; refine st_valG rfl (rn_cells rfl rfl rfl rfl (size_hashL hRl.out) (c17.out _ _ H (by simp; omega))) ?_; have tok39 : True := trivial)
    | (clear tok39; refine st_new rfl (rn_buildSlice (e := 5) (cs := []) (Own.refl w24) rfl (fun w' => by kernel_rfl)) ?_; intro b5 w25 hb5 M; have E := BufV.lit (n := 0) (sz := 1) M hb5 rfl (by omega); clear M hb5; have H4 := Lib.hid H; have A24 := Lib.hid (A6.out.mv H (by simp; omega)); clear H; have tok40 : True := trivial)
    | (clear tok40; refine st_appV rfl E elem_u8 rfl rfl rfl rfl (m := 36 + 32 * C) (ds := u8s sg) (by have := (A24.out.mv E.own0 (by simp)).1; rw [BytesAt, hsgl.out] at this; exact this) (by rw [length_ints, Nat.mul_one]; exact hsgl.out) (oneCell_ints _ _) (by omega) (by omega) ?_; clear E; intro p6 c6 w26 E; rw [List.nil_append] at E; obtain ⟨g, hg⟩ := E.addr (by omega); subst hg; rw [Nat.zero_add] at E; rw [Nat.zero_add]; have tok41 : True := trivial)
    | (clear tok41; refine st_val rfl (rn_cell rfl rfl rfl rfl (E.cellAt0 hzg.out)) ?_; have tok42 : True := trivial)
    | (clear tok42; refine st_storeV (i := n1) (u := .int .u8 (bits .xor .u8 z x1)) rfl E rfl rfl rfl (by kernel_rfl) (by omega) rfl ?_; clear E; intro w27 E; rw [← ints_set, hys'.out] at E; have Y7 := Lib.hid (show Old w27 (.slice (some ⟨g, 0, none⟩) (36 + 32 * C) c6) ys from ⟨by rw [BytesAt, hyl.out]; exact E.slAt, E.lt⟩); have H := H4.out.call0 E.own0; have HR := Lib.hid H; have M27 := Lib.hid (M6.out.mv H (by simp; omega)); clear E H; have H := Own.refl w27; have tok43 : True := trivial)
    | (clear tok43; refine st_val rfl (rn_cells rfl rfl rfl rfl hsz.out (c7i.out _ _ (HR.out.call0 H) (by simp; omega))) ?_; have tok44 : True := trivial)
    | (clear tok44; go_at_call 18; refine (hcan3.out _ _ _ (M27.out.mv H (by simp)) (Y7.out.mv H (by simp))).mono ?_; rintro e w28 ⟨rfl, h3⟩; have H2 := H.call0 h3; clear H h3; have H := H2; clear H2; have tok45 : True := trivial)
    | (clear tok45; refine st_new rfl (rn_alloc H rfl info_hash) ?_; clear H; intro b33 w29 hb33 H; have tok46 : True := trivial)
    | (clear tok46; refine st_skip rfl (rn_storeAll (vs := u8s K3) H rfl rfl rfl (size_hashL hK3l.out) .head (by rw [length_ints, length_ints, hK3l.out]; rfl) (oneCell_ints _ _)) ?_; clear H; intro w30 H; have tok47 : True := trivial)
    | (clear tok47; refine st_val rfl (rn_cells rfl rfl rfl rfl hsz.out (c7i.out _ _ (Own.call0 HR.out (H.end0 (by simp; omega))) (by simp; omega))) ?_; have tok48 : True := trivial)
    | (clear tok48; go_at_call 21; refine (hrcan3.out _ _ _ (M27.out.mv H (by simp; omega)) (Y7.out.mv H (by simp; omega))).mono ?_; rintro e w31 ⟨rfl, h3⟩; have H2 := H.call0 h3; clear H h3; have H := H2; clear H2; have tok49 : True := trivial)
    | (clear tok49; refine st_new rfl (rn_alloc H rfl info_hash) ?_; clear H; intro b35 w32 hb35 H; have tok50 : True := trivial)
    | (clear tok50; refine st_skip rfl (rn_storeAll (vs := u8s K3) H rfl rfl rfl (size_hashL hK3l.out) .head (by rw [length_ints, length_ints, hK3l.out]; rfl) (oneCell_ints _ _)) ?_; clear H; intro w33 H; have tok51 : True := trivial)
    | (clear tok51; go_at_call 14; refine (hto.out _).mono ?_; rintro e w2 ⟨rfl, h3⟩; have H2 := H.call0 h3; clear H h3; have H := H2; clear H2; have tok52 : True := trivial)
    | (clear tok52; refine st_valG rfl (rn_loadAll (cs := u8s K3) H rfl rfl (.tail _ (.head _)) rfl rfl (size_hashL hK3l.out)) ?_; have tok53 : True := trivial)
    | (clear tok53; refine st_valG rfl (rn_loadAll (cs := u8s K3) H rfl rfl (.head _) rfl rfl (size_hashL hK3l.out)) ?_; have tok54 : True := trivial))
  have h1 := Lib.hid (H.end0 (by simp; omega))
  have hw := Lib.hid ((HW.out.end0 (by simp; omega)).trans (HR.out.end0 (by simp; omega)))
  go_ret
  exact ⟨rfl, hw.out.trans h1.out⟩

set_option maxRecDepth 100000 in
set_option maxHeartbeats 8000000 in
theorem otsHolds_n0 (w : World) (id seed : List Int) (h16 : id.length = 16) (h32 : seed.length = 32) (hidb : IsBytes id) (q0 x0 at0 x1 : Int) (hx1 : 0 ≤ x1 ∧ x1 < 256) (hx0 : x1 = 0) (k : Nat) (hk3 : k = 1 ∨ k = 2 ∨ k = 4) (hwd0 : ∀ w, Calls Try.prog 20 #[.int .i64 x0] w fun e w' => e = .returned (.int .i64 k) ∧ Own w w' [])
    (pm ps : Option Addr) (n m cm cs : Nat) (msg oth : List Int) (hO : Old w (.slice pm n cm) msg) (hmb : IsBytes msg) (hn : n = msg.length) (hn5 : n ≤ 100) (hS : Old w (.slice ps m cs) oth) (hgb : IsBytes oth) (hmn : m = oth.length) (hm5 : m ≤ 100) (heq : ¬ msg = oth) :
    Calls Try.prog 8 #[.agg (u8s (id ++ seed)).toArray, .int .i64 q0, .int .i64 x0, .slice pm n cm, .slice ps m cs, .int .i64 at0, .int .u8 x1] w fun e w' => e = .returned (.bool true) ∧ Own w w' [] := by
  have H := Own.refl w
  have hsz := Lib.hid (size_idL h16)
  have hsz48 := Lib.hid (size_secretL h16 h32)
  have hto := Lib.hid otold_any
  have hOw := Lib.hid hO
  have hSw := Lib.hid hS
  have hwd := Lib.hid hwd0
  have hk : k = 1 ∨ k = 2 ∨ k = 4 ∨ k = 8 := by omega
  obtain ⟨q, hqe, hq⟩ := rem_wrap q0 32 (by omega) (by omega)
  have hq32 : q < 32 := by omega
  obtain ⟨hC0, hC1⟩ := chN_le k
  obtain ⟨q2, hq2, hq2l⟩ : ∃ q2 : Nat, ((q : Int) + 1).tmod 32 = (q2 : Int) ∧ q2 < 32 := by
    refine ⟨(q + 1) % 32, ?_, by omega⟩
    rw [Int.tmod_eq_emod_of_nonneg (by omega)]
    omega
  have hch : Hid (∀ w', Calls Try.prog 15 #[.int .i64 k] w' fun e w'' => e = .returned (.int .i64 (chN k)) ∧ Own w' w'' []) := by
    rcases hk with rfl | rfl | rfl | rfl <;> exact fun w' => chains_any w' _
  have hpub : Hid (∀ w', Calls Try.prog 17 #[.agg (u8s (id ++ seed)).toArray, .int .i64 q, .int .i64 k] w' fun e w'' => e = .returned (.tuple #[.agg (u8s (pubOf id seed q k)).toArray, .int .i64 0]) ∧ Own w' w'' []) := fun w' => public_any w' id seed h16 h32 q k hq32 hk
  have hsig : Hid (∀ w' v, Old w' v msg → Calls Try.prog 16 #[.agg (u8s (id ++ seed)).toArray, .int .i64 q, .int .i64 k, v] w' fun e w'' => ∃ b off c, e = .returned (.tuple #[.slice (some ⟨b, off, none⟩) (36 + 32 * chN k) c, .int .i64 0]) ∧ 36 + 32 * chN k ≤ c ∧ Old w'' (.slice (some ⟨b, off, none⟩) (36 + 32 * chN k) c) (sigOf id seed q k msg) ∧ Own w' w'' []) := fun w' v h => signQ_any w' id seed h16 h32 q k hq32 hk v msg h hmb (by omega) rfl
  obtain ⟨sg, hsg⟩ : ∃ s, s = sigOf id seed q k msg := ⟨_, rfl⟩
  have hsgl : Hid (sg.length = 36 + 32 * chN k) := by show _ = _; rw [hsg, length_sigOf]
  have hsgl9 : sg.length ≤ 1000000 := by rw [hsgl.out]; omega
  have hsgb : Hid (IsBytes sg) := by rw [hsg]; exact isBytes_sigOf _ _ _ _ _
  have hR0 : candOf id q k msg sg = pubOf id seed q k := by rw [hsg]; exact cand_sig ..
  have hE0 : candE k sg = 0 := by rw [hsg]; exact candE_sig ..
  have hcan : Hid (∀ w' v u, Old w' v msg → Old w' u sg → Calls Try.prog 18 #[.agg (u8s id).toArray, .int .i64 q, .int .i64 k, v, u] w' fun e w'' => e = .returned (.tuple #[.agg (u8s (candOf id q k msg sg)).toArray, .int .i64 (candE k sg)]) ∧ Own w' w'' []) := fun w' v u h1 h2 => cand_any w' id h16 q k (by omega) hk v u msg sg h1 hmb (by omega) h2 hsgb.out (hsgl9)
  have hcan1 : Hid (∀ w' v u, Old w' v oth → Old w' u sg → Calls Try.prog 18 #[.agg (u8s id).toArray, .int .i64 q, .int .i64 k, v, u] w' fun e w'' => e = .returned (.tuple #[.agg (u8s (candOf id q k oth sg)).toArray, .int .i64 (candE k sg)]) ∧ Own w' w'' []) := fun w' v u h1 h2 => cand_any w' id h16 q k (by omega) hk v u oth sg h1 hgb (by omega) h2 hsgb.out (hsgl9)
  have hcan2 : Hid (∀ w' v u, Old w' v msg → Old w' u sg → Calls Try.prog 18 #[.agg (u8s id).toArray, .int .i64 q2, .int .i64 k, v, u] w' fun e w'' => e = .returned (.tuple #[.agg (u8s (candOf id q2 k msg sg)).toArray, .int .i64 (candE k sg)]) ∧ Own w' w'' []) := fun w' v u h1 h2 => cand_any w' id h16 q2 k (by omega) hk v u msg sg h1 hmb (by omega) h2 hsgb.out (hsgl9)
  have hrcan1 : Hid (∀ w' v u, Old w' v oth → Old w' u sg → Calls Try.prog 21 #[.agg (u8s id).toArray, .int .i64 q, .int .i64 k, v, u] w' fun e w'' => e = .returned (.tuple #[.agg (u8s (candOf id q k oth sg)).toArray, .int .i64 (candE k sg)]) ∧ Own w' w'' []) := fun w' v u h1 h2 => refCand_any w' id h16 hidb q k (by omega) hk v u oth sg h1 hgb (by omega) h2 hsgb.out
  have hrcan2 : Hid (∀ w' v u, Old w' v msg → Old w' u sg → Calls Try.prog 21 #[.agg (u8s id).toArray, .int .i64 q2, .int .i64 k, v, u] w' fun e w'' => e = .returned (.tuple #[.agg (u8s (candOf id q2 k msg sg)).toArray, .int .i64 (candE k sg)]) ∧ Own w' w'' []) := fun w' v u h1 h2 => refCand_any w' id h16 hidb q2 k (by omega) hk v u msg sg h1 hmb (by omega) h2 hsgb.out
  rw [hR0, hE0] at hcan
  rw [hE0] at hcan1 hcan2 hrcan1 hrcan2
  have hsmo : Hid (∀ w' v u, Old w' v msg → Old w' u oth → Calls Try.prog 19 #[v, u] w' fun e w'' => e = .returned (.bool false) ∧ Own w' w'' []) := fun w' v u h1 h2 => by
    have h := same_any w' v u _ _ h1.1 h2.1 hmb hgb
    rw [decide_eq_false heq] at h
    exact h
  obtain ⟨R, hR⟩ : ∃ R, R = pubOf id seed q k := ⟨_, rfl⟩
  have hRl : Hid (R.length = 32) := by show _ = _; rw [hR]; rfl
  obtain ⟨K1, hK1⟩ : ∃ R, R = candOf id q k oth sg := ⟨_, rfl⟩
  have hK1l : Hid (K1.length = 32) := by show _ = _; rw [hK1]; exact length_candOf _ _ _ _ _
  simp only [← hK1] at hcan1 hrcan1
  have eK1 : ∀ w, (Op.equalIn 10000 23 (.agg (u8s K1).toArray) (.agg (u8s K1).toArray)).run Try.prog w = .ok true w := fun w => by rw [eqHash w _ _ hK1l.out hK1l.out]; simp
  obtain ⟨K2, hK2⟩ : ∃ R, R = candOf id q2 k msg sg := ⟨_, rfl⟩
  have hK2l : Hid (K2.length = 32) := by show _ = _; rw [hK2]; exact length_candOf _ _ _ _ _
  simp only [← hR, ← hK2, ← hsg] at hpub hsig hcan hcan2 hrcan2
  have eR : ∀ w, (Op.equalIn 10000 23 (.agg (u8s R).toArray) (.agg (u8s R).toArray)).run Try.prog w = .ok true w := fun w => by rw [eqHash w _ _ hRl.out hRl.out]; simp
  have eK2 : ∀ w, (Op.equalIn 10000 23 (.agg (u8s K2).toArray) (.agg (u8s K2).toArray)).run Try.prog w = .ok true w := fun w => by rw [eqHash w _ _ hK2l.out hK2l.out]; simp
  obtain ⟨C, hC⟩ : ∃ C, C = chN k := ⟨_, rfl⟩
  rw [← hC] at hC0 hC1 hch hsgl
  simp only [← hC] at hsig
  subst hx0
  clear hO hmb hn hS hgb hmn heq h16 h32 hwd0 hsg hq hk hk3 hR0 hE0 hR hK2 hC hidb hsgl9  hK1 
  go_enter Try.func8, Try.ntmps8
  have tok1 : True := trivial
  go_wp2_with (first
    | (clear tok1; refine st_new rfl (rn_box (cs := u8s (id ++ seed)) H rfl rfl rfl) ?_; clear H; intro b7 w1 hb7 H; have tok2 : True := trivial)
    | (clear tok2; go_at_call 20; refine (hwd.out _).mono ?_; rintro e w2 ⟨rfl, h3⟩; have H2 := H.call0 h3; clear H h3; have H := H2; clear H2; have tok3 : True := trivial)
    | (clear tok3; refine st_val rfl (rn_loadAll (cs := u8s (id ++ seed)) H rfl rfl (.head _) rfl rfl hsz48.out) ?_; have tok4 : True := trivial)
    | (clear tok4; go_at_call 17; refine (hpub.out _).mono ?_; rintro e w3 ⟨rfl, h3⟩; have H2 := H.call0 h3; clear H h3; have H := H2; clear H2; have tok5 : True := trivial)
    | (clear tok5; refine st_new rfl (rn_alloc H rfl info_hash) ?_; clear H; intro b17 w4 hb17 H; have tok6 : True := trivial)
    | (clear tok6; refine st_skip rfl (rn_storeAll (vs := u8s R) H rfl rfl rfl (size_hashL hRl.out) .head (by rw [length_ints, length_ints, hRl.out]; rfl) (oneCell_ints _ _)) ?_; clear H; intro w5 H; have tok7 : True := trivial)
    | (clear tok7; refine st_val rfl (rn_loadAll (cs := u8s (id ++ seed)) H rfl rfl (.tail _ (.head _)) rfl rfl hsz48.out) ?_; have tok8 : True := trivial)
    | (clear tok8; go_at_call 16; refine (hsig.out _ _ (hOw.out.mv H (by simp; omega))).mono ?_; rintro e w6 ⟨pa, oa, ca, rfl, gca, hA, h3⟩; have A6 := Lib.hid hA; have H2 := H.call0 h3; have HW := Lib.hid H2; have M6 := Lib.hid (hOw.out.mv H2 (by simp; omega)); have S6 := Lib.hid (hSw.out.mv H2 (by simp; omega));
        have c7i := Lib.hid (fun (w' : World) (L : List Ent) (h : Own w6 w' L) (hn : ∀ k ∈ L.map (·.1), w6.heap.size ≤ k) => show ∀ j v, (u8s id)[j]? = some v → w'.cell? ⟨b7, 0 + j, none⟩ = some v from fun j v hj => h.old (HW.out.rowL (.tail _ (.head _)) j v hj) (fun hm => by have := hn _ hm; have := HW.out.lt (.tail _ (.head _)); omega));
        have c17 := Lib.hid (fun (w' : World) (L : List Ent) (h : Own w6 w' L) (hn : ∀ k ∈ L.map (·.1), w6.heap.size ≤ k) => show ∀ j v, (u8s R)[j]? = some v → w'.cell? ⟨b17, 0 + j, none⟩ = some v from fun j v hj => h.old (by rw [HW.out.cell (.head _), Nat.zero_add]; exact hj) (fun hm => by have := hn _ hm; have := HW.out.lt (.head _); omega));
        clear H H2 h3 hA; have H := Own.refl w6; have tok9 : True := trivial)
    | (clear tok9; go_at_call 15; refine (hch.out _).mono ?_; rintro e w8 ⟨rfl, h3⟩; have H2 := H.call0 h3; clear H h3; have H := H2; clear H2; have tok10 : True := trivial)
    | (clear tok10; refine st_val rfl (rn_cells rfl rfl rfl rfl hsz.out (c7i.out _ _ H (by simp))) ?_; have tok11 : True := trivial)
    | (clear tok11; go_at_call 18; refine (hcan.out _ _ _ (M6.out.mv H (by simp)) (A6.out.mv H (by simp))).mono ?_; rintro e w9 ⟨rfl, h3⟩; have H2 := H.call0 h3; clear H h3; have H := H2; clear H2; have tok12 : True := trivial)
    | (clear tok12; refine st_new rfl (rn_alloc H rfl info_hash) ?_; clear H; intro b21 w10 hb21 H; have tok13 : True := trivial)
    | (clear tok13; refine st_skip rfl (rn_storeAll (vs := u8s R) H rfl rfl rfl (size_hashL hRl.out) .head (by rw [length_ints, length_ints, hRl.out]; rfl) (oneCell_ints _ _)) ?_; clear H; intro w11 H; have tok14 : True := trivial)
    | (clear tok14; refine st_val rfl (rn_cells rfl rfl rfl rfl hsz.out (c7i.out _ _ H (by simp; omega))) ?_; have tok15 : True := trivial)
    | (clear tok15; go_at_call 18; refine (hcan1.out _ _ _ (S6.out.mv H (by simp; omega)) (A6.out.mv H (by simp; omega))).mono ?_; rintro e w12 ⟨rfl, h3⟩; have H2 := H.call0 h3; clear H h3; have H := H2; clear H2; have tok16 : True := trivial)
    | (clear tok16; refine st_new rfl (rn_alloc H rfl info_hash) ?_; clear H; intro b23 w13 hb23 H; have tok17 : True := trivial)
    | (clear tok17; refine st_skip rfl (rn_storeAll (vs := u8s K1) H rfl rfl rfl (size_hashL hK1l.out) .head (by rw [length_ints, length_ints, hK1l.out]; rfl) (oneCell_ints _ _)) ?_; clear H; intro w14 H; have tok18 : True := trivial)
    | (clear tok18; refine st_val rfl (rn_cells rfl rfl rfl rfl hsz.out (c7i.out _ _ H (by simp; omega))) ?_; have tok19 : True := trivial)
    | (clear tok19; go_at_call 18; refine (hcan2.out _ _ _ (M6.out.mv H (by simp; omega)) (A6.out.mv H (by simp; omega))).mono ?_; rintro e w15 ⟨rfl, h3⟩; have H2 := H.call0 h3; clear H h3; have H := H2; clear H2; have tok20 : True := trivial)
    | (clear tok20; refine st_new rfl (rn_alloc H rfl info_hash) ?_; clear H; intro b25 w16 hb25 H; have tok21 : True := trivial)
    | (clear tok21; refine st_skip rfl (rn_storeAll (vs := u8s K2) H rfl rfl rfl (size_hashL hK2l.out) .head (by rw [length_ints, length_ints, hK2l.out]; rfl) (oneCell_ints _ _)) ?_; clear H; intro w17 H; have tok22 : True := trivial)
    | (clear tok22; refine st_val rfl (rn_cells rfl rfl rfl rfl hsz.out (c7i.out _ _ H (by simp; omega))) ?_; have tok23 : True := trivial)
    | (clear tok23; go_at_call 21; refine (hrcan1.out _ _ _ (S6.out.mv H (by simp; omega)) (A6.out.mv H (by simp; omega))).mono ?_; rintro e w18 ⟨rfl, h3⟩; have H2 := H.call0 h3; clear H h3; have H := H2; clear H2; have tok24 : True := trivial)
    | (clear tok24; refine st_new rfl (rn_alloc H rfl info_hash) ?_; clear H; intro b27 w19 hb27 H; have tok25 : True := trivial)
    | (clear tok25; refine st_skip rfl (rn_storeAll (vs := u8s K1) H rfl rfl rfl (size_hashL hK1l.out) .head (by rw [length_ints, length_ints, hK1l.out]; rfl) (oneCell_ints _ _)) ?_; clear H; intro w20 H; have tok26 : True := trivial)
    | (clear tok26; refine st_val rfl (rn_cells rfl rfl rfl rfl hsz.out (c7i.out _ _ H (by simp; omega))) ?_; have tok27 : True := trivial)
    | (clear tok27; go_at_call 21; refine (hrcan2.out _ _ _ (M6.out.mv H (by simp; omega)) (A6.out.mv H (by simp; omega))).mono ?_; rintro e w21 ⟨rfl, h3⟩; have H2 := H.call0 h3; clear H h3; have H := H2; clear H2; have tok28 : True := trivial)
    | (clear tok28; refine st_new rfl (rn_alloc H rfl info_hash) ?_; clear H; intro b29 w22 hb29 H; have tok29 : True := trivial)
    | (clear tok29; refine st_skip rfl (rn_storeAll (vs := u8s K2) H rfl rfl rfl (size_hashL hK2l.out) .head (by rw [length_ints, length_ints, hK2l.out]; rfl) (oneCell_ints _ _)) ?_; clear H; intro w23 H; have tok30 : True := trivial)
    | (clear tok30; refine st_valG rfl (rn_loadAll (cs := u8s R) H rfl rfl (.tail _ (.tail _ (.tail _ (.tail _ (.head _))))) rfl rfl (size_hashL hRl.out)) ?_; have tok31 : True := trivial)
    | (clear tok31; refine st_valG rfl (rn_cells rfl rfl rfl rfl (size_hashL hRl.out) (c17.out _ _ H (by simp; omega))) ?_; have tok32 : True := trivial)
    | (clear tok32; refine st_valG rfl (rn_loadAll (cs := u8s K1) H rfl rfl (.tail _ (.tail _ (.tail _ (.head _)))) rfl rfl (size_hashL hK1l.out)) ?_; have tok33 : True := trivial)
    | (clear tok33; refine st_valG rfl (rn_loadAll (cs := u8s K1) H rfl rfl (.tail _ (.head _)) rfl rfl (size_hashL hK1l.out)) ?_; have tok34 : True := trivial)
    | (clear tok34; refine st_valG rfl (rn_loadAll (cs := u8s K2) H rfl rfl (.tail _ (.tail _ (.head _))) rfl rfl (size_hashL hK2l.out)) ?_; have tok35 : True := trivial)
    | (clear tok35; refine st_valG rfl (rn_loadAll (cs := u8s K2) H rfl rfl (.head _) rfl rfl (size_hashL hK2l.out)) ?_; have tok36 : True := trivial)
    | (clear tok36; go_at_call 19; refine (hsmo.out _ _ _ (M6.out.mv H (by simp; omega)) (S6.out.mv H (by simp; omega))).mono ?_; rintro e w24 ⟨rfl, h3⟩; have H2 := H.call0 h3; clear H h3; have H := H2; clear H2; have tok37 : True := trivial)
    | (clear tok37; go_at_call 14; refine (hto.out _).mono ?_; rintro e w2 ⟨rfl, h3⟩; have H2 := H.call0 h3; clear H h3; have H := H2; clear H2; have tok38 : True := trivial))
  have h1 := Lib.hid (H.end0 (by simp; omega))
  have hw := Lib.hid (HW.out.end0 (by simp; omega))
  go_ret
  exact ⟨rfl, hw.out.trans h1.out⟩

set_option maxRecDepth 100000 in
set_option maxHeartbeats 8000000 in
theorem otsHolds_n1 (w : World) (id seed : List Int) (h16 : id.length = 16) (h32 : seed.length = 32) (hidb : IsBytes id) (q0 x0 at0 x1 : Int) (hx1 : 0 ≤ x1 ∧ x1 < 256) (hx0 : ¬ x1 = 0) (k : Nat) (hk3 : k = 1 ∨ k = 2 ∨ k = 4) (hwd0 : ∀ w, Calls Try.prog 20 #[.int .i64 x0] w fun e w' => e = .returned (.int .i64 k) ∧ Own w w' [])
    (pm ps : Option Addr) (n m cm cs : Nat) (msg oth : List Int) (hO : Old w (.slice pm n cm) msg) (hmb : IsBytes msg) (hn : n = msg.length) (hn5 : n ≤ 100) (hS : Old w (.slice ps m cs) oth) (hgb : IsBytes oth) (hmn : m = oth.length) (hm5 : m ≤ 100) (heq : ¬ msg = oth) :
    Calls Try.prog 8 #[.agg (u8s (id ++ seed)).toArray, .int .i64 q0, .int .i64 x0, .slice pm n cm, .slice ps m cs, .int .i64 at0, .int .u8 x1] w fun e w' => e = .returned (.bool true) ∧ Own w w' [] := by
  have H := Own.refl w
  have hsz := Lib.hid (size_idL h16)
  have hsz48 := Lib.hid (size_secretL h16 h32)
  have hto := Lib.hid otold_any
  have hOw := Lib.hid hO
  have hSw := Lib.hid hS
  have hwd := Lib.hid hwd0
  have hk : k = 1 ∨ k = 2 ∨ k = 4 ∨ k = 8 := by omega
  obtain ⟨q, hqe, hq⟩ := rem_wrap q0 32 (by omega) (by omega)
  have hq32 : q < 32 := by omega
  obtain ⟨hC0, hC1⟩ := chN_le k
  obtain ⟨q2, hq2, hq2l⟩ : ∃ q2 : Nat, ((q : Int) + 1).tmod 32 = (q2 : Int) ∧ q2 < 32 := by
    refine ⟨(q + 1) % 32, ?_, by omega⟩
    rw [Int.tmod_eq_emod_of_nonneg (by omega)]
    omega
  have hch : Hid (∀ w', Calls Try.prog 15 #[.int .i64 k] w' fun e w'' => e = .returned (.int .i64 (chN k)) ∧ Own w' w'' []) := by
    rcases hk with rfl | rfl | rfl | rfl <;> exact fun w' => chains_any w' _
  have hpub : Hid (∀ w', Calls Try.prog 17 #[.agg (u8s (id ++ seed)).toArray, .int .i64 q, .int .i64 k] w' fun e w'' => e = .returned (.tuple #[.agg (u8s (pubOf id seed q k)).toArray, .int .i64 0]) ∧ Own w' w'' []) := fun w' => public_any w' id seed h16 h32 q k hq32 hk
  have hsig : Hid (∀ w' v, Old w' v msg → Calls Try.prog 16 #[.agg (u8s (id ++ seed)).toArray, .int .i64 q, .int .i64 k, v] w' fun e w'' => ∃ b off c, e = .returned (.tuple #[.slice (some ⟨b, off, none⟩) (36 + 32 * chN k) c, .int .i64 0]) ∧ 36 + 32 * chN k ≤ c ∧ Old w'' (.slice (some ⟨b, off, none⟩) (36 + 32 * chN k) c) (sigOf id seed q k msg) ∧ Own w' w'' []) := fun w' v h => signQ_any w' id seed h16 h32 q k hq32 hk v msg h hmb (by omega) rfl
  obtain ⟨sg, hsg⟩ : ∃ s, s = sigOf id seed q k msg := ⟨_, rfl⟩
  have hsgl : Hid (sg.length = 36 + 32 * chN k) := by show _ = _; rw [hsg, length_sigOf]
  have hsgl9 : sg.length ≤ 1000000 := by rw [hsgl.out]; omega
  have hsgb : Hid (IsBytes sg) := by rw [hsg]; exact isBytes_sigOf _ _ _ _ _
  have hR0 : candOf id q k msg sg = pubOf id seed q k := by rw [hsg]; exact cand_sig ..
  have hE0 : candE k sg = 0 := by rw [hsg]; exact candE_sig ..
  have hcan : Hid (∀ w' v u, Old w' v msg → Old w' u sg → Calls Try.prog 18 #[.agg (u8s id).toArray, .int .i64 q, .int .i64 k, v, u] w' fun e w'' => e = .returned (.tuple #[.agg (u8s (candOf id q k msg sg)).toArray, .int .i64 (candE k sg)]) ∧ Own w' w'' []) := fun w' v u h1 h2 => cand_any w' id h16 q k (by omega) hk v u msg sg h1 hmb (by omega) h2 hsgb.out (hsgl9)
  have hcan1 : Hid (∀ w' v u, Old w' v oth → Old w' u sg → Calls Try.prog 18 #[.agg (u8s id).toArray, .int .i64 q, .int .i64 k, v, u] w' fun e w'' => e = .returned (.tuple #[.agg (u8s (candOf id q k oth sg)).toArray, .int .i64 (candE k sg)]) ∧ Own w' w'' []) := fun w' v u h1 h2 => cand_any w' id h16 q k (by omega) hk v u oth sg h1 hgb (by omega) h2 hsgb.out (hsgl9)
  have hcan2 : Hid (∀ w' v u, Old w' v msg → Old w' u sg → Calls Try.prog 18 #[.agg (u8s id).toArray, .int .i64 q2, .int .i64 k, v, u] w' fun e w'' => e = .returned (.tuple #[.agg (u8s (candOf id q2 k msg sg)).toArray, .int .i64 (candE k sg)]) ∧ Own w' w'' []) := fun w' v u h1 h2 => cand_any w' id h16 q2 k (by omega) hk v u msg sg h1 hmb (by omega) h2 hsgb.out (hsgl9)
  have hrcan1 : Hid (∀ w' v u, Old w' v oth → Old w' u sg → Calls Try.prog 21 #[.agg (u8s id).toArray, .int .i64 q, .int .i64 k, v, u] w' fun e w'' => e = .returned (.tuple #[.agg (u8s (candOf id q k oth sg)).toArray, .int .i64 (candE k sg)]) ∧ Own w' w'' []) := fun w' v u h1 h2 => refCand_any w' id h16 hidb q k (by omega) hk v u oth sg h1 hgb (by omega) h2 hsgb.out
  have hrcan2 : Hid (∀ w' v u, Old w' v msg → Old w' u sg → Calls Try.prog 21 #[.agg (u8s id).toArray, .int .i64 q2, .int .i64 k, v, u] w' fun e w'' => e = .returned (.tuple #[.agg (u8s (candOf id q2 k msg sg)).toArray, .int .i64 (candE k sg)]) ∧ Own w' w'' []) := fun w' v u h1 h2 => refCand_any w' id h16 hidb q2 k (by omega) hk v u msg sg h1 hmb (by omega) h2 hsgb.out
  rw [hR0, hE0] at hcan
  rw [hE0] at hcan1 hcan2 hrcan1 hrcan2
  have hsmo : Hid (∀ w' v u, Old w' v msg → Old w' u oth → Calls Try.prog 19 #[v, u] w' fun e w'' => e = .returned (.bool false) ∧ Own w' w'' []) := fun w' v u h1 h2 => by
    have h := same_any w' v u _ _ h1.1 h2.1 hmb hgb
    rw [decide_eq_false heq] at h
    exact h
  obtain ⟨n1, hn1, hn1l⟩ := rem_wrap at0 (36 + 32 * (chN k : Int)) (by omega) (by omega)
  have hn1l' : n1 < 36 + 32 * chN k := by omega
  have hn1l2 : n1 < 36 + 32 * chN k := by omega
  obtain ⟨z, hz⟩ : ∃ z, sg[n1]?.getD 0 = z := ⟨_, rfl⟩
  have hz0 : Hid (0 ≤ z ∧ z < 256) := by have := hsgb.out n1 (by rw [hsgl.out]; exact hn1l'); rw [hz] at this; exact this
  have hzg : Hid ((u8s sg)[n1]? = some (.int .u8 z)) := by show _ = _; rw [← hz]; exact ints_get (by rw [hsgl.out]; exact hn1l')
  obtain ⟨ys, hys⟩ : ∃ ys, sg.set n1 (bits .xor .u8 z x1) = ys := ⟨_, rfl⟩
  have hys' := Lib.hid hys
  have hyl : Hid (ys.length = 36 + 32 * chN k) := by show _ = _; rw [← hys, List.length_set, hsgl.out]
  have hyl9 : ys.length ≤ 1000000 := by rw [hyl.out]; omega
  have hyb : Hid (IsBytes ys) := by rw [← hys]; exact isBytes_set3 hsgb.out (xor_facts3 hz0.out hx1).1
  have hEy : candE k ys = if n1 < 4 then 3 else 0 := by rw [← hys, ← hz, hsg]; exact candE_set _ _ _ _ _ _ _ hn1l' hx1 hx0
  obtain ⟨bb, hbb⟩ : ∃ b, b = decide (n1 < 4) := ⟨_, rfl⟩
  have hb1 : (candE k ys == 3) = bb := by rw [hEy, hbb]; by_cases h : n1 < 4 <;> simp [h]
  have hb2 : decide ((n1 : Int) < 4) = bb := by rw [hbb]; congr 1; rw [eq_iff_iff]; omega
  have hcan3 : Hid (∀ w' v u, Old w' v msg → Old w' u ys → Calls Try.prog 18 #[.agg (u8s id).toArray, .int .i64 q, .int .i64 k, v, u] w' fun e w'' => e = .returned (.tuple #[.agg (u8s (candOf id q k msg ys)).toArray, .int .i64 (candE k ys)]) ∧ Own w' w'' []) := fun w' v u h1 h2 => cand_any w' id h16 q k (by omega) hk v u msg ys h1 hmb (by omega) h2 hyb.out (hyl9)
  have hrcan3 : Hid (∀ w' v u, Old w' v msg → Old w' u ys → Calls Try.prog 21 #[.agg (u8s id).toArray, .int .i64 q, .int .i64 k, v, u] w' fun e w'' => e = .returned (.tuple #[.agg (u8s (candOf id q k msg ys)).toArray, .int .i64 (candE k ys)]) ∧ Own w' w'' []) := fun w' v u h1 h2 => refCand_any w' id h16 hidb q k (by omega) hk v u msg ys h1 hmb (by omega) h2 hyb.out
  obtain ⟨K3, hK3⟩ : ∃ R, R = candOf id q k msg ys := ⟨_, rfl⟩
  have hK3l : Hid (K3.length = 32) := by show _ = _; rw [hK3]; exact length_candOf _ _ _ _ _
  obtain ⟨E3, hE3⟩ : ∃ R, R = candE k ys := ⟨_, rfl⟩
  simp only [← hK3, ← hE3] at hcan3 hrcan3 hb1
  have eK3 : ∀ w, (Op.equalIn 10000 23 (.agg (u8s K3).toArray) (.agg (u8s K3).toArray)).run Try.prog w = .ok true w := fun w => by rw [eqHash w _ _ hK3l.out hK3l.out]; simp
  obtain ⟨R, hR⟩ : ∃ R, R = pubOf id seed q k := ⟨_, rfl⟩
  have hRl : Hid (R.length = 32) := by show _ = _; rw [hR]; rfl
  obtain ⟨K1, hK1⟩ : ∃ R, R = candOf id q k oth sg := ⟨_, rfl⟩
  have hK1l : Hid (K1.length = 32) := by show _ = _; rw [hK1]; exact length_candOf _ _ _ _ _
  simp only [← hK1] at hcan1 hrcan1
  have eK1 : ∀ w, (Op.equalIn 10000 23 (.agg (u8s K1).toArray) (.agg (u8s K1).toArray)).run Try.prog w = .ok true w := fun w => by rw [eqHash w _ _ hK1l.out hK1l.out]; simp
  obtain ⟨K2, hK2⟩ : ∃ R, R = candOf id q2 k msg sg := ⟨_, rfl⟩
  have hK2l : Hid (K2.length = 32) := by show _ = _; rw [hK2]; exact length_candOf _ _ _ _ _
  simp only [← hR, ← hK2, ← hsg] at hpub hsig hcan hcan2 hrcan2
  have eR : ∀ w, (Op.equalIn 10000 23 (.agg (u8s R).toArray) (.agg (u8s R).toArray)).run Try.prog w = .ok true w := fun w => by rw [eqHash w _ _ hRl.out hRl.out]; simp
  have eK2 : ∀ w, (Op.equalIn 10000 23 (.agg (u8s K2).toArray) (.agg (u8s K2).toArray)).run Try.prog w = .ok true w := fun w => by rw [eqHash w _ _ hK2l.out hK2l.out]; simp
  obtain ⟨C, hC⟩ : ∃ C, C = chN k := ⟨_, rfl⟩
  rw [← hC] at hC0 hC1 hch hsgl hyl hn1 hn1l2
  simp only [← hC] at hsig

  clear hO hmb hn hS hgb hmn heq h16 h32 hwd0 hsg hq hk hk3 hR0 hE0 hR hK2 hC hidb hsgl9 hn1l hn1l' hz hys hyl9 hEy hbb hK3 hE3 hK1 
  go_enter Try.func8, Try.ntmps8
  have tok1 : True := trivial
  go_wp2_with (first
    | (clear tok1; refine st_new rfl (rn_box (cs := u8s (id ++ seed)) H rfl rfl rfl) ?_; clear H; intro b7 w1 hb7 H; have tok2 : True := trivial)
    | (clear tok2; go_at_call 20; refine (hwd.out _).mono ?_; rintro e w2 ⟨rfl, h3⟩; have H2 := H.call0 h3; clear H h3; have H := H2; clear H2; have tok3 : True := trivial)
    | (clear tok3; refine st_val rfl (rn_loadAll (cs := u8s (id ++ seed)) H rfl rfl (.head _) rfl rfl hsz48.out) ?_; have tok4 : True := trivial)
    | (clear tok4; go_at_call 17; refine (hpub.out _).mono ?_; rintro e w3 ⟨rfl, h3⟩; have H2 := H.call0 h3; clear H h3; have H := H2; clear H2; have tok5 : True := trivial)
    | (clear tok5; refine st_new rfl (rn_alloc H rfl info_hash) ?_; clear H; intro b17 w4 hb17 H; have tok6 : True := trivial)
    | (clear tok6; refine st_skip rfl (rn_storeAll (vs := u8s R) H rfl rfl rfl (size_hashL hRl.out) .head (by rw [length_ints, length_ints, hRl.out]; rfl) (oneCell_ints _ _)) ?_; clear H; intro w5 H; have tok7 : True := trivial)
    | (clear tok7; refine st_val rfl (rn_loadAll (cs := u8s (id ++ seed)) H rfl rfl (.tail _ (.head _)) rfl rfl hsz48.out) ?_; have tok8 : True := trivial)
    | (clear tok8; go_at_call 16; refine (hsig.out _ _ (hOw.out.mv H (by simp; omega))).mono ?_; rintro e w6 ⟨pa, oa, ca, rfl, gca, hA, h3⟩; have A6 := Lib.hid hA; have H2 := H.call0 h3; have HW := Lib.hid H2; have M6 := Lib.hid (hOw.out.mv H2 (by simp; omega)); have S6 := Lib.hid (hSw.out.mv H2 (by simp; omega));
        have c7i := Lib.hid (fun (w' : World) (L : List Ent) (h : Own w6 w' L) (hn : ∀ k ∈ L.map (·.1), w6.heap.size ≤ k) => show ∀ j v, (u8s id)[j]? = some v → w'.cell? ⟨b7, 0 + j, none⟩ = some v from fun j v hj => h.old (HW.out.rowL (.tail _ (.head _)) j v hj) (fun hm => by have := hn _ hm; have := HW.out.lt (.tail _ (.head _)); omega));
        have c17 := Lib.hid (fun (w' : World) (L : List Ent) (h : Own w6 w' L) (hn : ∀ k ∈ L.map (·.1), w6.heap.size ≤ k) => show ∀ j v, (u8s R)[j]? = some v → w'.cell? ⟨b17, 0 + j, none⟩ = some v from fun j v hj => h.old (by rw [HW.out.cell (.head _), Nat.zero_add]; exact hj) (fun hm => by have := hn _ hm; have := HW.out.lt (.head _); omega));
        clear H H2 h3 hA; have H := Own.refl w6; have tok9 : True := trivial)
    | (clear tok9; go_at_call 15; refine (hch.out _).mono ?_; rintro e w8 ⟨rfl, h3⟩; have H2 := H.call0 h3; clear H h3; have H := H2; clear H2; have tok10 : True := trivial)
    | (clear tok10; refine st_val rfl (rn_cells rfl rfl rfl rfl hsz.out (c7i.out _ _ H (by simp))) ?_; have tok11 : True := trivial)
    | (clear tok11; go_at_call 18; refine (hcan.out _ _ _ (M6.out.mv H (by simp)) (A6.out.mv H (by simp))).mono ?_; rintro e w9 ⟨rfl, h3⟩; have H2 := H.call0 h3; clear H h3; have H := H2; clear H2; have tok12 : True := trivial)
    | (clear tok12; refine st_new rfl (rn_alloc H rfl info_hash) ?_; clear H; intro b21 w10 hb21 H; have tok13 : True := trivial)
    | (clear tok13; refine st_skip rfl (rn_storeAll (vs := u8s R) H rfl rfl rfl (size_hashL hRl.out) .head (by rw [length_ints, length_ints, hRl.out]; rfl) (oneCell_ints _ _)) ?_; clear H; intro w11 H; have tok14 : True := trivial)
    | (clear tok14; refine st_val rfl (rn_cells rfl rfl rfl rfl hsz.out (c7i.out _ _ H (by simp; omega))) ?_; have tok15 : True := trivial)
    | (clear tok15; go_at_call 18; refine (hcan1.out _ _ _ (S6.out.mv H (by simp; omega)) (A6.out.mv H (by simp; omega))).mono ?_; rintro e w12 ⟨rfl, h3⟩; have H2 := H.call0 h3; clear H h3; have H := H2; clear H2; have tok16 : True := trivial)
    | (clear tok16; refine st_new rfl (rn_alloc H rfl info_hash) ?_; clear H; intro b23 w13 hb23 H; have tok17 : True := trivial)
    | (clear tok17; refine st_skip rfl (rn_storeAll (vs := u8s K1) H rfl rfl rfl (size_hashL hK1l.out) .head (by rw [length_ints, length_ints, hK1l.out]; rfl) (oneCell_ints _ _)) ?_; clear H; intro w14 H; have tok18 : True := trivial)
    | (clear tok18; refine st_val rfl (rn_cells rfl rfl rfl rfl hsz.out (c7i.out _ _ H (by simp; omega))) ?_; have tok19 : True := trivial)
    | (clear tok19; go_at_call 18; refine (hcan2.out _ _ _ (M6.out.mv H (by simp; omega)) (A6.out.mv H (by simp; omega))).mono ?_; rintro e w15 ⟨rfl, h3⟩; have H2 := H.call0 h3; clear H h3; have H := H2; clear H2; have tok20 : True := trivial)
    | (clear tok20; refine st_new rfl (rn_alloc H rfl info_hash) ?_; clear H; intro b25 w16 hb25 H; have tok21 : True := trivial)
    | (clear tok21; refine st_skip rfl (rn_storeAll (vs := u8s K2) H rfl rfl rfl (size_hashL hK2l.out) .head (by rw [length_ints, length_ints, hK2l.out]; rfl) (oneCell_ints _ _)) ?_; clear H; intro w17 H; have tok22 : True := trivial)
    | (clear tok22; refine st_val rfl (rn_cells rfl rfl rfl rfl hsz.out (c7i.out _ _ H (by simp; omega))) ?_; have tok23 : True := trivial)
    | (clear tok23; go_at_call 21; refine (hrcan1.out _ _ _ (S6.out.mv H (by simp; omega)) (A6.out.mv H (by simp; omega))).mono ?_; rintro e w18 ⟨rfl, h3⟩; have H2 := H.call0 h3; clear H h3; have H := H2; clear H2; have tok24 : True := trivial)
    | (clear tok24; refine st_new rfl (rn_alloc H rfl info_hash) ?_; clear H; intro b27 w19 hb27 H; have tok25 : True := trivial)
    | (clear tok25; refine st_skip rfl (rn_storeAll (vs := u8s K1) H rfl rfl rfl (size_hashL hK1l.out) .head (by rw [length_ints, length_ints, hK1l.out]; rfl) (oneCell_ints _ _)) ?_; clear H; intro w20 H; have tok26 : True := trivial)
    | (clear tok26; refine st_val rfl (rn_cells rfl rfl rfl rfl hsz.out (c7i.out _ _ H (by simp; omega))) ?_; have tok27 : True := trivial)
    | (clear tok27; go_at_call 21; refine (hrcan2.out _ _ _ (M6.out.mv H (by simp; omega)) (A6.out.mv H (by simp; omega))).mono ?_; rintro e w21 ⟨rfl, h3⟩; have H2 := H.call0 h3; clear H h3; have H := H2; clear H2; have tok28 : True := trivial)
    | (clear tok28; refine st_new rfl (rn_alloc H rfl info_hash) ?_; clear H; intro b29 w22 hb29 H; have tok29 : True := trivial)
    | (clear tok29; refine st_skip rfl (rn_storeAll (vs := u8s K2) H rfl rfl rfl (size_hashL hK2l.out) .head (by rw [length_ints, length_ints, hK2l.out]; rfl) (oneCell_ints _ _)) ?_; clear H; intro w23 H; have tok30 : True := trivial)
    | (clear tok30; refine st_valG rfl (rn_loadAll (cs := u8s R) H rfl rfl (.tail _ (.tail _ (.tail _ (.tail _ (.head _))))) rfl rfl (size_hashL hRl.out)) ?_; have tok31 : True := trivial)
    | (clear tok31; refine st_valG rfl (rn_cells rfl rfl rfl rfl (size_hashL hRl.out) (c17.out _ _ H (by simp; omega))) ?_; have tok32 : True := trivial)
    | (clear tok32; refine st_valG rfl (rn_loadAll (cs := u8s K1) H rfl rfl (.tail _ (.tail _ (.tail _ (.head _)))) rfl rfl (size_hashL hK1l.out)) ?_; have tok33 : True := trivial)
    | (clear tok33; refine st_valG rfl (rn_loadAll (cs := u8s K1) H rfl rfl (.tail _ (.head _)) rfl rfl (size_hashL hK1l.out)) ?_; have tok34 : True := trivial)
    | (clear tok34; refine st_valG rfl (rn_loadAll (cs := u8s K2) H rfl rfl (.tail _ (.tail _ (.head _))) rfl rfl (size_hashL hK2l.out)) ?_; have tok35 : True := trivial)
    | (clear tok35; refine st_valG rfl (rn_loadAll (cs := u8s K2) H rfl rfl (.head _) rfl rfl (size_hashL hK2l.out)) ?_; have tok36 : True := trivial)
    | (clear tok36; go_at_call 19; refine (hsmo.out _ _ _ (M6.out.mv H (by simp; omega)) (S6.out.mv H (by simp; omega))).mono ?_; rintro e w24 ⟨rfl, h3⟩; have H2 := H.call0 h3; clear H h3; have H := H2; clear H2; have tok37 : True := trivial)
    | (clear tok37; refine st_new rfl (rn_buildSlice (e := 5) (cs := []) (Own.refl w24) rfl (fun w' => by kernel_rfl)) ?_; intro b5 w25 hb5 M; have E := BufV.lit (n := 0) (sz := 1) M hb5 rfl (by omega); clear M hb5; have H4 := Lib.hid H; have A24 := Lib.hid (A6.out.mv H (by simp; omega)); clear H; have tok38 : True := trivial)
    | (clear tok38; refine st_appV rfl E elem_u8 rfl rfl rfl rfl (m := 36 + 32 * C) (ds := u8s sg) (by have := (A24.out.mv E.own0 (by simp)).1; rw [BytesAt, hsgl.out] at this; exact this) (by rw [length_ints, Nat.mul_one]; exact hsgl.out) (oneCell_ints _ _) (by omega) (by omega) ?_; clear E; intro p6 c6 w26 E; rw [List.nil_append] at E; obtain ⟨g, hg⟩ := E.addr (by omega); subst hg; rw [Nat.zero_add] at E; rw [Nat.zero_add]; have tok39 : True := trivial)
    | (clear tok39; refine st_val rfl (rn_cell rfl rfl rfl rfl (E.cellAt0 hzg.out)) ?_; have tok40 : True := trivial)
    | (clear tok40; refine st_storeV (i := n1) (u := .int .u8 (bits .xor .u8 z x1)) rfl E rfl rfl rfl (by kernel_rfl) (by omega) rfl ?_; clear E; intro w27 E; rw [← ints_set, hys'.out] at E; have Y7 := Lib.hid (show Old w27 (.slice (some ⟨g, 0, none⟩) (36 + 32 * C) c6) ys from ⟨by rw [BytesAt, hyl.out]; exact E.slAt, E.lt⟩); have H := H4.out.call0 E.own0; have HR := Lib.hid H; have M27 := Lib.hid (M6.out.mv H (by simp; omega)); clear E H; have H := Own.refl w27; have tok41 : True := trivial)
    | (clear tok41; refine st_val rfl (rn_cells rfl rfl rfl rfl hsz.out (c7i.out _ _ (HR.out.call0 H) (by simp; omega))) ?_; have tok42 : True := trivial)
    | (clear tok42; go_at_call 18; refine (hcan3.out _ _ _ (M27.out.mv H (by simp)) (Y7.out.mv H (by simp))).mono ?_; rintro e w28 ⟨rfl, h3⟩; have H2 := H.call0 h3; clear H h3; have H := H2; clear H2; have tok43 : True := trivial)
    | (clear tok43; refine st_new rfl (rn_alloc H rfl info_hash) ?_; clear H; intro b33 w29 hb33 H; have tok44 : True := trivial)
    | (clear tok44; refine st_skip rfl (rn_storeAll (vs := u8s K3) H rfl rfl rfl (size_hashL hK3l.out) .head (by rw [length_ints, length_ints, hK3l.out]; rfl) (oneCell_ints _ _)) ?_; clear H; intro w30 H; have tok45 : True := trivial)
    | (clear tok45; refine st_val rfl (rn_cells rfl rfl rfl rfl hsz.out (c7i.out _ _ (Own.call0 HR.out (H.end0 (by simp; omega))) (by simp; omega))) ?_; have tok46 : True := trivial)
    | (clear tok46; go_at_call 21; refine (hrcan3.out _ _ _ (M27.out.mv H (by simp; omega)) (Y7.out.mv H (by simp; omega))).mono ?_; rintro e w31 ⟨rfl, h3⟩; have H2 := H.call0 h3; clear H h3; have H := H2; clear H2; have tok47 : True := trivial)
    | (clear tok47; refine st_new rfl (rn_alloc H rfl info_hash) ?_; clear H; intro b35 w32 hb35 H; have tok48 : True := trivial)
    | (clear tok48; refine st_skip rfl (rn_storeAll (vs := u8s K3) H rfl rfl rfl (size_hashL hK3l.out) .head (by rw [length_ints, length_ints, hK3l.out]; rfl) (oneCell_ints _ _)) ?_; clear H; intro w33 H; have tok49 : True := trivial)
    | (clear tok49; go_at_call 14; refine (hto.out _).mono ?_; rintro e w2 ⟨rfl, h3⟩; have H2 := H.call0 h3; clear H h3; have H := H2; clear H2; have tok50 : True := trivial)
    | (clear tok50; refine st_valG rfl (rn_loadAll (cs := u8s K3) H rfl rfl (.tail _ (.head _)) rfl rfl (size_hashL hK3l.out)) ?_; have tok51 : True := trivial)
    | (clear tok51; refine st_valG rfl (rn_loadAll (cs := u8s K3) H rfl rfl (.head _) rfl rfl (size_hashL hK3l.out)) ?_; have tok52 : True := trivial))
  have h1 := Lib.hid (H.end0 (by simp; omega))
  have hw := Lib.hid ((HW.out.end0 (by simp; omega)).trans (HR.out.end0 (by simp; omega)))
  go_ret
  exact ⟨rfl, hw.out.trans h1.out⟩

set_option maxRecDepth 100000 in
set_option maxHeartbeats 8000000 in
theorem otsHolds_row (w : World) (ss : List Int) (h48 : ss.length = 48) (hsb : ∀ i, i < ss.length → 0 ≤ ss[i]?.getD 0 ∧ ss[i]?.getD 0 < 256) (q0 : Int) (_ : IntKind.i64.min ≤ q0) (_ : q0 ≤ IntKind.i64.max) (x0 : Int) (_ : IntKind.i64.min ≤ x0) (_ : x0 ≤ IntKind.i64.max)
    (mv : Value) (msg : List Int) (hm : BytesAt w mv msg) (hml : ∀ k, blk mv = some k → k < w.heap.size) (hmb : ∀ i, i < msg.length → 0 ≤ msg[i]?.getD 0 ∧ msg[i]?.getD 0 < 256)
    (sv : Value) (oth : List Int) (hs : BytesAt w sv oth) (hsl : ∀ k, blk sv = some k → k < w.heap.size) (hgb : ∀ i, i < oth.length → 0 ≤ oth[i]?.getD 0 ∧ oth[i]?.getD 0 < 256)
    (at0 : Int) (_ : IntKind.i64.min ≤ at0) (_ : at0 ≤ IntKind.i64.max) (x1 : Int) (hx1 : IntKind.u8.min ≤ x1) (hx2 : x1 ≤ IntKind.u8.max) :
    Calls Try.prog 8 #[.agg (u8s ss).toArray, .int .i64 q0, .int .i64 x0, mv, sv, .int .i64 at0, .int .u8 x1] w fun e w' => e = .returned (.bool true) ∧ Own w w' [] := by
  rename_i q1 q2 q3 q4 q5 q6
  clear q1 q2 q3 q4 q5 q6
  have hx3 : 0 ≤ x1 ∧ x1 < 256 := by
    have e1 : IntKind.u8.min = 0 := by decide
    have e2 : IntKind.u8.max = 255 := by decide
    rw [e1] at hx1
    rw [e2] at hx2
    omega
  clear hx1 hx2
  have H := Own.refl w
  have hO : Old w mv msg := ⟨hm, hml⟩
  have hS : Old w sv oth := ⟨hs, hsl⟩
  obtain ⟨pm, cm, rfl⟩ := hO.shape
  obtain ⟨ps, cs, rfl⟩ := hS.shape
  obtain ⟨n, hn⟩ : ∃ n, n = msg.length := ⟨_, rfl⟩
  obtain ⟨m, hmn⟩ : ∃ n, n = oth.length := ⟨_, rfl⟩
  rw [← hn] at hO ⊢
  rw [← hmn] at hS ⊢
  obtain ⟨id, seed, rfl, h16, h32⟩ := split48 h48
  have hidb : IsBytes id := isBytes_mem.2 fun x hx => isBytes_mem.1 hsb x (List.mem_append_left _ hx)
  have hto := Lib.hid otold_any
  by_cases hbig : 100 < n
  · clear hm hml hmb hO hn h48 h16 h32 hs hsl hgb hS hmn hsb hidb hx3
    go_enter Try.func8, Try.ntmps8
    have tok1 : True := trivial
    go_wp2_with (first
      | (clear tok1; refine st_new rfl (rn_box (cs := u8s (id ++ seed)) H rfl rfl rfl) ?_; clear H; intro b7 w1 hb7 H; have tok2 : True := trivial)
      | (go_at_call 14; refine (hto.out _).mono ?_; rintro e w2 ⟨rfl, h3⟩; have H2 := H.call0 h3; clear H h3; have H := H2; clear H2))
    have h1 := Lib.hid (H.end0 (by simpa using hb7))
    go_ret
    exact ⟨rfl, h1.out⟩
  by_cases hbig2 : 100 < m
  · have hbig' : n ≤ 100 := by omega
    clear hm hml hmb hO hn h48 h16 h32 hs hsl hgb hS hmn hbig hsb hidb hx3
    go_enter Try.func8, Try.ntmps8
    have tok1 : True := trivial
    go_wp2_with (first
      | (clear tok1; refine st_new rfl (rn_box (cs := u8s (id ++ seed)) H rfl rfl rfl) ?_; clear H; intro b7 w1 hb7 H; have tok2 : True := trivial)
      | (go_at_call 14; refine (hto.out _).mono ?_; rintro e w2 ⟨rfl, h3⟩; have H2 := H.call0 h3; clear H h3; have H := H2; clear H2))
    have h1 := Lib.hid (H.end0 (by simpa using hb7))
    go_ret
    exact ⟨rfl, h1.out⟩
  · have hn5 : n ≤ 100 := by omega
    have hm5 : m ≤ 100 := by omega
    obtain ⟨k, hk3, hwd⟩ := wide_any x0
    by_cases heq : msg = oth
    · by_cases hx0 : x1 = 0
      · exact otsHolds_e0 w id seed h16 h32 hidb q0 x0 at0 x1 hx3 hx0 k hk3 hwd pm ps n m cm cs msg oth hO hmb hn hn5 hS hgb hmn hm5 heq
      · exact otsHolds_e1 w id seed h16 h32 hidb q0 x0 at0 x1 hx3 hx0 k hk3 hwd pm ps n m cm cs msg oth hO hmb hn hn5 hS hgb hmn hm5 heq
    · by_cases hx0 : x1 = 0
      · exact otsHolds_n0 w id seed h16 h32 hidb q0 x0 at0 x1 hx3 hx0 k hk3 hwd pm ps n m cm cs msg oth hO hmb hn hn5 hS hgb hmn hm5 heq
      · exact otsHolds_n1 w id seed h16 h32 hidb q0 x0 at0 x1 hx3 hx0 k hk3 hwd pm ps n m cm cs msg oth hO hmb hn hn5 hS hgb hmn hm5 heq

end Go.Proofs.Ytokichlmgepdpaa
