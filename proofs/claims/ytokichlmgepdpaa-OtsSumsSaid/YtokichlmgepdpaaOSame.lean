/- chirographlaw3.OtsSame: the walk. -/
import Derived.Test.YtokichlmgepdpaaOWide
namespace Go.Proofs.Ytokichlmgepdpaa
open Go.RowKit

theorem u8s_app (xs ys : List Int) : u8s (xs ++ ys) = u8s xs ++ u8s ys := ints_append ..

set_option maxRecDepth 100000 in
theorem eqSecret (w : World) (a b c d : List Int) (ha : a.length = 16) (hb : b.length = 32) (hc : c.length = 16) (hd : d.length = 32) : (Op.equalIn 10000 35 (.agg (u8s (a ++ b)).toArray) (.agg (u8s (c ++ d)).toArray)).run Try.prog w = .ok (decide (a = c) && decide (b = d)) w := by
  rw [show (10000 : Nat) = 9999 + 1 from rfl, run_equalIn_struct w 9999 35 _ _ (by kernel_rfl) (by kernel_rfl)]
  have hl : (Try.prog.fieldsOf 35).toList.length = 2 := by kernel_rfl
  have h0 : ((Try.prog.fieldsOf 35).toList[0]?).map (fun f => (f.type, f.offset, f.name != "_")) = some (33, 0, true) := by kernel_rfl
  have h1 : ((Try.prog.fieldsOf 35).toList[1]?).map (fun f => (f.type, f.offset, f.name != "_")) = some (23, 16, true) := by kernel_rfl
  generalize (Try.prog.fieldsOf 35).toList = fs at hl h0 h1
  match fs, hl, h0, h1 with
  | [f, g], _, h0, h1 =>
    simp only [List.getElem?_cons_zero, List.getElem?_cons_succ, Option.map_some, Option.some.injEq, Prod.mk.injEq] at h0 h1
    obtain ⟨f1, f2, f3⟩ := h0
    obtain ⟨g1, g2, g3⟩ := h1
    have pt : ∀ (xs ys : List Int) (hx : xs.length = 16) (hy : ys.length = 32) (w : World), (part f.type (u8s (xs ++ ys)).toArray f.offset).run Try.prog w = .ok (.agg (u8s xs).toArray) w := fun xs ys hx hy w => by
      rw [f1, f2]
      unfold part
      have e : (Try.prog.info? 33).map (·.size) = some 16 := size_id
      have hag : (isAgg 33).run Try.prog w = .ok true w := by rw [run_isAgg (P := Try.prog) (ty := 33) rfl]; rfl
      simp only [Sem.run_bind, hag, Result.andThen_ok, if_true, run_sizeOf e, Sem.run_pure]
      congr 2
      rw [u8s_app]
      simp [hx]
    have pg : ∀ (xs ys : List Int) (hx : xs.length = 16) (hy : ys.length = 32) (w : World), (part g.type (u8s (xs ++ ys)).toArray g.offset).run Try.prog w = .ok (.agg (u8s ys).toArray) w := fun xs ys hx hy w => by
      rw [g1, g2]
      unfold part
      have e : (Try.prog.info? 23).map (·.size) = some 32 := size_hash
      have hag : (isAgg 23).run Try.prog w = .ok true w := by rw [run_isAgg (P := Try.prog) (ty := 23) rfl]; rfl
      simp only [Sem.run_bind, hag, Result.andThen_ok, if_true, run_sizeOf e, Sem.run_pure]
      congr 2
      rw [u8s_app]
      simp [hx]
      exact List.take_of_length_le (by rw [length_ints, hy]; omega)
    have q1 : ∀ w, (Op.equalIn 9999 f.type (.agg (u8s a).toArray) (.agg (u8s c).toArray)).run Try.prog w = .ok (decide (a = c)) w := fun w => by rw [f1]; exact run_eqInts 9997 (by omega) (e := 5) (q := .u8) rfl rfl (by kernel_rfl) a c ha hc w
    have q2 : ∀ w, (Op.equalIn 9999 g.type (.agg (u8s b).toArray) (.agg (u8s d).toArray)).run Try.prog w = .ok (decide (b = d)) w := fun w => by rw [g1]; exact run_eqInts 9997 (by omega) (e := 5) (q := .u8) rfl rfl (by kernel_rfl) b d hb hd w
    simp only [Op.eqFields, Sem.run_bind, Sem.run_ite, pt a b ha hb, pt c d hc hd, pg a b ha hb, pg c d hc hd, q1, q2, Result.andThen_ok]
    have f3' : f.name ≠ "_" := by simpa using f3
    have g3' : g.name ≠ "_" := by simpa using g3
    rw [if_pos f3', if_pos g3']
    generalize decide (a = c) = x
    generalize decide (b = d) = y
    cases x <;> cases y <;> rfl

set_option maxRecDepth 100000 in
set_option maxHeartbeats 8000000 in
theorem otsSame_row (w : World) (ss : List Int) (h48 : ss.length = 48) (_ : ∀ i, i < ss.length → 0 ≤ ss[i]?.getD 0 ∧ ss[i]?.getD 0 < 256) (tt : List Int) (h48t : tt.length = 48) (_ : ∀ i, i < tt.length → 0 ≤ tt[i]?.getD 0 ∧ tt[i]?.getD 0 < 256) (q0 : Int) (_ : IntKind.i64.min ≤ q0) (_ : q0 ≤ IntKind.i64.max)
    (mv : Value) (msg : List Int) (hm : BytesAt w mv msg) (hml : ∀ k, blk mv = some k → k < w.heap.size) (hmb : ∀ i, i < msg.length → 0 ≤ msg[i]?.getD 0 ∧ msg[i]?.getD 0 < 256) :
    Calls Try.prog 5 #[.agg (u8s ss).toArray, .agg (u8s tt).toArray, .int .i64 q0, mv] w fun e w' => e = .returned (.bool true) ∧ Own w w' [] := by
  rename_i q1 q2 q3 q4
  clear q1 q2 q3 q4
  have H := Own.refl w
  have hO : Old w mv msg := ⟨hm, hml⟩
  obtain ⟨pm, cm, rfl⟩ := hO.shape
  obtain ⟨n, hn⟩ : ∃ n, n = msg.length := ⟨_, rfl⟩
  rw [← hn] at hO ⊢
  obtain ⟨id, seed, rfl, h16, h32⟩ := split48 h48
  obtain ⟨it, st, rfl, h16t, h32t⟩ := split48 h48t
  have hsz := Lib.hid (size_idL h16)
  have hsz48 := Lib.hid (size_secretL h16 h32)
  have hszt := Lib.hid (size_idL h16t)
  have hsz48t := Lib.hid (size_secretL h16t h32t)
  have hto := Lib.hid otold_any
  by_cases hbig : 30 < n
  · clear hm hml hmb hO hn h48 h16 h32 h48t h16t h32t
    go_enter Try.func5, Try.ntmps5
    have tok1 : True := trivial
    go_wp2_with (first
      | (clear tok1; refine st_new rfl (rn_box (cs := u8s (id ++ seed)) H rfl rfl rfl) ?_; clear H; intro b4 w1 hb4 H; have tok2 : True := trivial)
      | (clear tok2; refine st_new rfl (rn_box (cs := u8s (it ++ st)) H rfl rfl rfl) ?_; clear H; intro b5 w2 hb5 H)
      | (go_at_call 14; refine (hto.out _).mono ?_; rintro e w2 ⟨rfl, h3⟩; have H2 := H.call0 h3; clear H h3; have H := H2; clear H2))
    have h1 := Lib.hid (H.end0 (by simp; omega))
    go_ret
    exact ⟨rfl, h1.out⟩
  · have hbig' : n ≤ 30 := by omega
    have hOw := Lib.hid hO
    obtain ⟨q, hqe, hq⟩ := rem_wrap q0 32 (by omega) (by omega)
    have hq32 : q < 32 := by omega
    have hpub : Hid (∀ w', Calls Try.prog 17 #[.agg (u8s (id ++ seed)).toArray, .int .i64 q, .int .i64 1] w' fun e w'' => e = .returned (.tuple #[.agg (u8s (pubOf id seed q 1)).toArray, .int .i64 0]) ∧ Own w' w'' []) := fun w' => public_any w' id seed h16 h32 q 1 hq32 (by omega)
    have hpubt : Hid (∀ w', Calls Try.prog 17 #[.agg (u8s (it ++ st)).toArray, .int .i64 q, .int .i64 1] w' fun e w'' => e = .returned (.tuple #[.agg (u8s (pubOf it st q 1)).toArray, .int .i64 0]) ∧ Own w' w'' []) := fun w' => public_any w' it st h16t h32t q 1 hq32 (by omega)
    have hsig : Hid (∀ w' v, Old w' v msg → Calls Try.prog 16 #[.agg (u8s (id ++ seed)).toArray, .int .i64 q, .int .i64 1, v] w' fun e w'' => ∃ p c, e = .returned (.tuple #[.slice p 8516 c, .int .i64 0]) ∧ Old w'' (.slice p 8516 c) (sigOf id seed q 1 msg) ∧ Own w' w'' []) := fun w' v h => signP_any w' id seed h16 h32 q 1 hq32 (by omega) v msg h hmb (by omega) rfl
    have hsigt : Hid (∀ w' v, Old w' v msg → Calls Try.prog 16 #[.agg (u8s (it ++ st)).toArray, .int .i64 q, .int .i64 1, v] w' fun e w'' => ∃ p c, e = .returned (.tuple #[.slice p 8516 c, .int .i64 0]) ∧ Old w'' (.slice p 8516 c) (sigOf it st q 1 msg) ∧ Own w' w'' []) := fun w' v h => signP_any w' it st h16t h32t q 1 hq32 (by omega) v msg h hmb (by omega) rfl
    have hcan : Hid (∀ w' v u, Old w' v msg → Old w' u (sigOf id seed q 1 msg) → Calls Try.prog 18 #[.agg (u8s id).toArray, .int .i64 q, .int .i64 1, v, u] w' fun e w'' => e = .returned (.tuple #[.agg (u8s (pubOf id seed q 1)).toArray, .int .i64 0]) ∧ Own w' w'' []) := fun w' v u h1 h2 => by
      have h := cand_any w' id h16 q 1 hq32 (by omega) v u msg _ h1 hmb (by omega) h2 (isBytes_sigOf _ _ _ _ _) (by rw [length_sigOf]; decide)
      rw [cand_sig, candE_sig] at h
      exact h
    have hcant : Hid (∀ w' v u, Old w' v msg → Old w' u (sigOf it st q 1 msg) → Calls Try.prog 18 #[.agg (u8s it).toArray, .int .i64 q, .int .i64 1, v, u] w' fun e w'' => e = .returned (.tuple #[.agg (u8s (pubOf it st q 1)).toArray, .int .i64 0]) ∧ Own w' w'' []) := fun w' v u h1 h2 => by
      have h := cand_any w' it h16t q 1 hq32 (by omega) v u msg _ h1 hmb (by omega) h2 (isBytes_sigOf _ _ _ _ _) (by rw [length_sigOf]; decide)
      rw [cand_sig, candE_sig] at h
      exact h
    have hsm : Hid (∀ w' v u, Old w' v (sigOf id seed q 1 msg) → Old w' u (sigOf id seed q 1 msg) → Calls Try.prog 19 #[v, u] w' fun e w'' => e = .returned (.bool true) ∧ Own w' w'' []) := fun w' v u h1 h2 => by
      have h := same_any w' v u _ _ h1.1 h2.1 (isBytes_sigOf id seed q 1 msg) (isBytes_sigOf id seed q 1 msg)
      rw [decide_eq_true rfl] at h
      exact h
    have eS := fun w => eqSecret w id seed it st h16 h32 h16t h32t
    obtain ⟨bq, hbq⟩ : ∃ b, b = (decide (id = it) && decide (seed = st)) := ⟨_, rfl⟩
    rw [← hbq] at eS
    have hRR : Hid (bq = true → pubOf it st q 1 = pubOf id seed q 1) := fun h => by
      rw [hbq, Bool.and_eq_true, decide_eq_true_eq, decide_eq_true_eq] at h
      rw [h.1, h.2]
    obtain ⟨R, hR⟩ : ∃ R, R = pubOf id seed q 1 := ⟨_, rfl⟩
    have hRl : Hid (R.length = 32) := by show _ = _; rw [hR]; rfl
    obtain ⟨T, hT⟩ : ∃ R, R = pubOf it st q 1 := ⟨_, rfl⟩
    have hTl : Hid (T.length = 32) := by show _ = _; rw [hT]; rfl
    obtain ⟨sg, hsg⟩ : ∃ R, R = sigOf id seed q 1 msg := ⟨_, rfl⟩
    obtain ⟨sgt, hsgt⟩ : ∃ R, R = sigOf it st q 1 msg := ⟨_, rfl⟩
    simp only [← hR, ← hsg, ← hT, ← hsgt] at hpub hsig hcan hpubt hsigt hcant hsm hRR
    have eZ : ∀ w, (Op.equalIn 10000 23 (.agg (u8s R).toArray) (.agg (u8s R).toArray)).run Try.prog w = .ok true w := fun w => by rw [eqHash w _ _ hRl.out hRl.out]; simp
    have eT : ∀ w, (Op.equalIn 10000 23 (.agg (u8s T).toArray) (.agg (u8s T).toArray)).run Try.prog w = .ok true w := fun w => by rw [eqHash w _ _ hTl.out hTl.out]; simp
    have eB : ∀ w, bq = true → (Op.equalIn 10000 23 (.agg (u8s R).toArray) (.agg (u8s T).toArray)).run Try.prog w = .ok true w := fun w h => by rw [hRR.out h]; exact eZ w
    have eB' := Lib.hid eB
    clear hm hml hmb hO hn h48 h16 h32 h48t h16t h32t hR hsg hT hsgt hbig hq hbq eB hRR
    cases bq with
    | true =>
      have eRT := fun w => eB'.out w rfl
      clear eB'
      go_enter Try.func5, Try.ntmps5
      have tok1 : True := trivial
      go_wp2_with (first
        | (clear tok1; refine st_new rfl (rn_box (cs := u8s (id ++ seed)) H rfl rfl rfl) ?_; clear H; intro b4 w1 hb4 H; have tok2 : True := trivial)
        | (clear tok2; refine st_new rfl (rn_box (cs := u8s (it ++ st)) H rfl rfl rfl) ?_; clear H; intro b5 w2 hb5 H; have tok3 : True := trivial)
        | (clear tok3; refine st_val rfl (rn_loadAll (cs := u8s (id ++ seed)) H rfl rfl (.tail _ (.head _)) rfl rfl hsz48.out) ?_; have tok4 : True := trivial)
        | (clear tok4; go_at_call 16; refine (hsig.out _ _ (hOw.out.mv H (by simp; omega))).mono ?_; rintro e w6 ⟨pa, ca, rfl, hA, h3⟩; have H2 := H.call0 h3; have A6 := Lib.hid hA; clear H h3 hA; have H := H2; clear H2; have tok5 : True := trivial)
        | (clear tok5; refine st_val rfl (rn_loadAll (cs := u8s (id ++ seed)) H rfl rfl (.tail _ (.head _)) rfl rfl hsz48.out) ?_; have tok6 : True := trivial)
        | (clear tok6; go_at_call 16; refine (hsig.out _ _ (hOw.out.mv H (by simp; omega))).mono ?_; rintro e w7 ⟨pb, cb, rfl, hB, h3⟩; have H2 := H.call0 h3; have A7 := Lib.hid (A6.out.mv h3 (by simp)); have B7 := Lib.hid hB; have HW := Lib.hid H2; have M7 := Lib.hid (hOw.out.mv H2 (by simp; omega));
            have c4 := Lib.hid (fun (w' : World) (L : List Ent) (h : Own w7 w' L) (hn : ∀ k ∈ L.map (·.1), w7.heap.size ≤ k) => show ∀ j v, (u8s (id ++ seed))[j]? = some v → w'.cell? ⟨b4, 0 + j, none⟩ = some v from fun j v hj => h.old (by rw [HW.out.cell (.tail _ (.head _)), Nat.zero_add]; exact hj) (fun hm => by have := hn _ hm; have := HW.out.lt (.tail _ (.head _)); omega));
            have c4i := Lib.hid (fun (w' : World) (L : List Ent) (h : Own w7 w' L) (hn : ∀ k ∈ L.map (·.1), w7.heap.size ≤ k) => show ∀ j v, (u8s id)[j]? = some v → w'.cell? ⟨b4, 0 + j, none⟩ = some v from fun j v hj => h.old (HW.out.rowL (.tail _ (.head _)) j v hj) (fun hm => by have := hn _ hm; have := HW.out.lt (.tail _ (.head _)); omega));
            have c5 := Lib.hid (fun (w' : World) (L : List Ent) (h : Own w7 w' L) (hn : ∀ k ∈ L.map (·.1), w7.heap.size ≤ k) => show ∀ j v, (u8s (it ++ st))[j]? = some v → w'.cell? ⟨b5, 0 + j, none⟩ = some v from fun j v hj => h.old (by rw [HW.out.cell (.head _), Nat.zero_add]; exact hj) (fun hm => by have := hn _ hm; have := HW.out.lt (.head _); omega));
            have c5i := Lib.hid (fun (w' : World) (L : List Ent) (h : Own w7 w' L) (hn : ∀ k ∈ L.map (·.1), w7.heap.size ≤ k) => show ∀ j v, (u8s it)[j]? = some v → w'.cell? ⟨b5, 0 + j, none⟩ = some v from fun j v hj => h.old (HW.out.rowL (.head _) j v hj) (fun hm => by have := hn _ hm; have := HW.out.lt (.head _); omega));
            clear H H2 h3 hB A6; have H := Own.refl w7; have tok7 : True := trivial)
        | (clear tok7; refine st_val rfl (rn_cells rfl rfl rfl rfl hsz48.out (c4.out _ _ H (by simp))) ?_; have tok8 : True := trivial)
        | (clear tok8; go_at_call 17; refine (hpub.out _).mono ?_; rintro e w8 ⟨rfl, h3⟩; have H2 := H.call0 h3; clear H h3; have H := H2; clear H2; have tok9 : True := trivial)
        | (clear tok9; refine st_new rfl (rn_alloc H rfl info_hash) ?_; clear H; intro b14 w9 hb14 H; have tok10 : True := trivial)
        | (clear tok10; refine st_skip rfl (rn_storeAll (vs := u8s R) H rfl rfl rfl (size_hashL hRl.out) .head (by rw [length_ints, length_ints, hRl.out]; rfl) (oneCell_ints _ _)) ?_; clear H; intro w10 H; have tok11 : True := trivial)
        | (clear tok11; refine st_val rfl (rn_cells rfl rfl rfl rfl hsz.out (c4i.out _ _ H (by simp; omega))) ?_; have tok12 : True := trivial)
        | (clear tok12; go_at_call 18; refine (hcan.out _ _ _ (M7.out.mv H (by simp; omega)) (A7.out.mv H (by simp; omega))).mono ?_; rintro e w11 ⟨rfl, h3⟩; have H2 := H.call0 h3; clear H h3; have H := H2; clear H2; have tok13 : True := trivial)
        | (clear tok13; refine st_new rfl (rn_alloc H rfl info_hash) ?_; clear H; intro b16 w12 hb16 H; have tok14 : True := trivial)
        | (clear tok14; refine st_skip rfl (rn_storeAll (vs := u8s R) H rfl rfl rfl (size_hashL hRl.out) .head (by rw [length_ints, length_ints, hRl.out]; rfl) (oneCell_ints _ _)) ?_; clear H; intro w13 H; have tok15 : True := trivial)
        | (clear tok15; refine st_val rfl (rn_cells rfl rfl rfl rfl hsz48t.out (c5.out _ _ H (by simp; omega))) ?_; have tok16 : True := trivial)
        | (clear tok16; go_at_call 16; refine (hsigt.out _ _ (M7.out.mv H (by simp; omega))).mono ?_; rintro e w14 ⟨px, cx, rfl, hX, h3⟩; have H2 := H.call0 h3; have X14 := Lib.hid hX; clear H h3 hX; have H := H2; clear H2; have tok17 : True := trivial)
        | (clear tok17; refine st_val rfl (rn_cells rfl rfl rfl rfl hszt.out (c5i.out _ _ H (by simp; omega))) ?_; have tok18 : True := trivial)
        | (clear tok18; go_at_call 18; refine (hcant.out _ _ _ (M7.out.mv H (by simp; omega)) X14.out).mono ?_; rintro e w15 ⟨rfl, h3⟩; have H2 := H.call0 h3; clear H h3 X14; have H := H2; clear H2; have tok19 : True := trivial)
        | (clear tok19; refine st_new rfl (rn_alloc H rfl info_hash) ?_; clear H; intro b20 w16 hb20 H; have tok20 : True := trivial)
        | (clear tok20; refine st_skip rfl (rn_storeAll (vs := u8s T) H rfl rfl rfl (size_hashL hTl.out) .head (by rw [length_ints, length_ints, hTl.out]; rfl) (oneCell_ints _ _)) ?_; clear H; intro w17 H; have tok21 : True := trivial)
        | (clear tok21; refine st_val rfl (rn_cells rfl rfl rfl rfl hsz48t.out (c5.out _ _ H (by simp; omega))) ?_; have tok22 : True := trivial)
        | (clear tok22; go_at_call 17; refine (hpubt.out _).mono ?_; rintro e w18 ⟨rfl, h3⟩; have H2 := H.call0 h3; clear H h3; have H := H2; clear H2; have tok23 : True := trivial)
        | (clear tok23; refine st_new rfl (rn_alloc H rfl info_hash) ?_; clear H; intro b22 w19 hb22 H; have tok24 : True := trivial)
        | (clear tok24; refine st_skip rfl (rn_storeAll (vs := u8s T) H rfl rfl rfl (size_hashL hTl.out) .head (by rw [length_ints, length_ints, hTl.out]; rfl) (oneCell_ints _ _)) ?_; clear H; intro w20 H; have tok25 : True := trivial)
        | (clear tok25; go_at_call 14; refine (hto.out _).mono ?_; rintro e w21 ⟨rfl, h3⟩; have H2 := H.call0 h3; clear H h3; have H := H2; clear H2; have tok26 : True := trivial)
        | (clear tok26; go_at_call 19; refine (hsm.out _ _ _ (A7.out.mv H (by simp; omega)) (B7.out.mv H (by simp; omega))).mono ?_; rintro e w22 ⟨rfl, h3⟩; have H2 := H.call0 h3; clear H h3; have H := H2; clear H2; have tok27 : True := trivial)
        | (clear tok27; refine st_valG rfl (rn_loadAll (cs := u8s R) H rfl rfl (.tail _ (.tail _ (.tail _ (.head _)))) rfl rfl (size_hashL hRl.out)) ?_; have tok28 : True := trivial)
        | (clear tok28; refine st_valG rfl (rn_loadAll (cs := u8s R) H rfl rfl (.tail _ (.tail _ (.head _))) rfl rfl (size_hashL hRl.out)) ?_; have tok29 : True := trivial)
        | (clear tok29; refine st_valG rfl (rn_loadAll (cs := u8s T) H rfl rfl (.tail _ (.head _)) rfl rfl (size_hashL hTl.out)) ?_; have tok30 : True := trivial)
        | (clear tok30; refine st_valG rfl (rn_loadAll (cs := u8s T) H rfl rfl (.head _) rfl rfl (size_hashL hTl.out)) ?_; have tok31 : True := trivial)
        | (clear tok31; refine st_valG rfl (rn_cells rfl rfl rfl rfl hsz48.out (c4.out _ _ H (by simp; omega))) ?_; have tok32 : True := trivial)
        | (clear tok32; refine st_valG rfl (rn_cells rfl rfl rfl rfl hsz48t.out (c5.out _ _ H (by simp; omega))) ?_; have tok33 : True := trivial)
        | (clear tok33; refine st_valG rfl (rn_loadAll (cs := u8s R) H rfl rfl (.tail _ (.tail _ (.tail _ (.head _)))) rfl rfl (size_hashL hRl.out)) ?_; have tok34 : True := trivial)
        | (clear tok34; refine st_valG rfl (rn_loadAll (cs := u8s T) H rfl rfl (.head _) rfl rfl (size_hashL hTl.out)) ?_))
      have h1 := Lib.hid (H.end0 (by simp; omega))
      have hw := Lib.hid (HW.out.end0 (by simp; omega))
      go_ret
      exact ⟨rfl, hw.out.trans h1.out⟩
    | false =>
      clear eB'
      go_enter Try.func5, Try.ntmps5
      have tok1 : True := trivial
      go_wp2_with (first
        | (clear tok1; refine st_new rfl (rn_box (cs := u8s (id ++ seed)) H rfl rfl rfl) ?_; clear H; intro b4 w1 hb4 H; have tok2 : True := trivial)
        | (clear tok2; refine st_new rfl (rn_box (cs := u8s (it ++ st)) H rfl rfl rfl) ?_; clear H; intro b5 w2 hb5 H; have tok3 : True := trivial)
        | (clear tok3; refine st_val rfl (rn_loadAll (cs := u8s (id ++ seed)) H rfl rfl (.tail _ (.head _)) rfl rfl hsz48.out) ?_; have tok4 : True := trivial)
        | (clear tok4; go_at_call 16; refine (hsig.out _ _ (hOw.out.mv H (by simp; omega))).mono ?_; rintro e w6 ⟨pa, ca, rfl, hA, h3⟩; have H2 := H.call0 h3; have A6 := Lib.hid hA; clear H h3 hA; have H := H2; clear H2; have tok5 : True := trivial)
        | (clear tok5; refine st_val rfl (rn_loadAll (cs := u8s (id ++ seed)) H rfl rfl (.tail _ (.head _)) rfl rfl hsz48.out) ?_; have tok6 : True := trivial)
        | (clear tok6; go_at_call 16; refine (hsig.out _ _ (hOw.out.mv H (by simp; omega))).mono ?_; rintro e w7 ⟨pb, cb, rfl, hB, h3⟩; have H2 := H.call0 h3; have A7 := Lib.hid (A6.out.mv h3 (by simp)); have B7 := Lib.hid hB; have HW := Lib.hid H2; have M7 := Lib.hid (hOw.out.mv H2 (by simp; omega));
            have c4 := Lib.hid (fun (w' : World) (L : List Ent) (h : Own w7 w' L) (hn : ∀ k ∈ L.map (·.1), w7.heap.size ≤ k) => show ∀ j v, (u8s (id ++ seed))[j]? = some v → w'.cell? ⟨b4, 0 + j, none⟩ = some v from fun j v hj => h.old (by rw [HW.out.cell (.tail _ (.head _)), Nat.zero_add]; exact hj) (fun hm => by have := hn _ hm; have := HW.out.lt (.tail _ (.head _)); omega));
            have c4i := Lib.hid (fun (w' : World) (L : List Ent) (h : Own w7 w' L) (hn : ∀ k ∈ L.map (·.1), w7.heap.size ≤ k) => show ∀ j v, (u8s id)[j]? = some v → w'.cell? ⟨b4, 0 + j, none⟩ = some v from fun j v hj => h.old (HW.out.rowL (.tail _ (.head _)) j v hj) (fun hm => by have := hn _ hm; have := HW.out.lt (.tail _ (.head _)); omega));
            have c5 := Lib.hid (fun (w' : World) (L : List Ent) (h : Own w7 w' L) (hn : ∀ k ∈ L.map (·.1), w7.heap.size ≤ k) => show ∀ j v, (u8s (it ++ st))[j]? = some v → w'.cell? ⟨b5, 0 + j, none⟩ = some v from fun j v hj => h.old (by rw [HW.out.cell (.head _), Nat.zero_add]; exact hj) (fun hm => by have := hn _ hm; have := HW.out.lt (.head _); omega));
            have c5i := Lib.hid (fun (w' : World) (L : List Ent) (h : Own w7 w' L) (hn : ∀ k ∈ L.map (·.1), w7.heap.size ≤ k) => show ∀ j v, (u8s it)[j]? = some v → w'.cell? ⟨b5, 0 + j, none⟩ = some v from fun j v hj => h.old (HW.out.rowL (.head _) j v hj) (fun hm => by have := hn _ hm; have := HW.out.lt (.head _); omega));
            clear H H2 h3 hB A6; have H := Own.refl w7; have tok7 : True := trivial)
        | (clear tok7; refine st_val rfl (rn_cells rfl rfl rfl rfl hsz48.out (c4.out _ _ H (by simp))) ?_; have tok8 : True := trivial)
        | (clear tok8; go_at_call 17; refine (hpub.out _).mono ?_; rintro e w8 ⟨rfl, h3⟩; have H2 := H.call0 h3; clear H h3; have H := H2; clear H2; have tok9 : True := trivial)
        | (clear tok9; refine st_new rfl (rn_alloc H rfl info_hash) ?_; clear H; intro b14 w9 hb14 H; have tok10 : True := trivial)
        | (clear tok10; refine st_skip rfl (rn_storeAll (vs := u8s R) H rfl rfl rfl (size_hashL hRl.out) .head (by rw [length_ints, length_ints, hRl.out]; rfl) (oneCell_ints _ _)) ?_; clear H; intro w10 H; have tok11 : True := trivial)
        | (clear tok11; refine st_val rfl (rn_cells rfl rfl rfl rfl hsz.out (c4i.out _ _ H (by simp; omega))) ?_; have tok12 : True := trivial)
        | (clear tok12; go_at_call 18; refine (hcan.out _ _ _ (M7.out.mv H (by simp; omega)) (A7.out.mv H (by simp; omega))).mono ?_; rintro e w11 ⟨rfl, h3⟩; have H2 := H.call0 h3; clear H h3; have H := H2; clear H2; have tok13 : True := trivial)
        | (clear tok13; refine st_new rfl (rn_alloc H rfl info_hash) ?_; clear H; intro b16 w12 hb16 H; have tok14 : True := trivial)
        | (clear tok14; refine st_skip rfl (rn_storeAll (vs := u8s R) H rfl rfl rfl (size_hashL hRl.out) .head (by rw [length_ints, length_ints, hRl.out]; rfl) (oneCell_ints _ _)) ?_; clear H; intro w13 H; have tok15 : True := trivial)
        | (clear tok15; refine st_val rfl (rn_cells rfl rfl rfl rfl hsz48t.out (c5.out _ _ H (by simp; omega))) ?_; have tok16 : True := trivial)
        | (clear tok16; go_at_call 16; refine (hsigt.out _ _ (M7.out.mv H (by simp; omega))).mono ?_; rintro e w14 ⟨px, cx, rfl, hX, h3⟩; have H2 := H.call0 h3; have X14 := Lib.hid hX; clear H h3 hX; have H := H2; clear H2; have tok17 : True := trivial)
        | (clear tok17; refine st_val rfl (rn_cells rfl rfl rfl rfl hszt.out (c5i.out _ _ H (by simp; omega))) ?_; have tok18 : True := trivial)
        | (clear tok18; go_at_call 18; refine (hcant.out _ _ _ (M7.out.mv H (by simp; omega)) X14.out).mono ?_; rintro e w15 ⟨rfl, h3⟩; have H2 := H.call0 h3; clear H h3 X14; have H := H2; clear H2; have tok19 : True := trivial)
        | (clear tok19; refine st_new rfl (rn_alloc H rfl info_hash) ?_; clear H; intro b20 w16 hb20 H; have tok20 : True := trivial)
        | (clear tok20; refine st_skip rfl (rn_storeAll (vs := u8s T) H rfl rfl rfl (size_hashL hTl.out) .head (by rw [length_ints, length_ints, hTl.out]; rfl) (oneCell_ints _ _)) ?_; clear H; intro w17 H; have tok21 : True := trivial)
        | (clear tok21; refine st_val rfl (rn_cells rfl rfl rfl rfl hsz48t.out (c5.out _ _ H (by simp; omega))) ?_; have tok22 : True := trivial)
        | (clear tok22; go_at_call 17; refine (hpubt.out _).mono ?_; rintro e w18 ⟨rfl, h3⟩; have H2 := H.call0 h3; clear H h3; have H := H2; clear H2; have tok23 : True := trivial)
        | (clear tok23; refine st_new rfl (rn_alloc H rfl info_hash) ?_; clear H; intro b22 w19 hb22 H; have tok24 : True := trivial)
        | (clear tok24; refine st_skip rfl (rn_storeAll (vs := u8s T) H rfl rfl rfl (size_hashL hTl.out) .head (by rw [length_ints, length_ints, hTl.out]; rfl) (oneCell_ints _ _)) ?_; clear H; intro w20 H; have tok25 : True := trivial)
        | (clear tok25; go_at_call 14; refine (hto.out _).mono ?_; rintro e w21 ⟨rfl, h3⟩; have H2 := H.call0 h3; clear H h3; have H := H2; clear H2; have tok26 : True := trivial)
        | (clear tok26; go_at_call 19; refine (hsm.out _ _ _ (A7.out.mv H (by simp; omega)) (B7.out.mv H (by simp; omega))).mono ?_; rintro e w22 ⟨rfl, h3⟩; have H2 := H.call0 h3; clear H h3; have H := H2; clear H2; have tok27 : True := trivial)
        | (clear tok27; refine st_valG rfl (rn_loadAll (cs := u8s R) H rfl rfl (.tail _ (.tail _ (.tail _ (.head _)))) rfl rfl (size_hashL hRl.out)) ?_; have tok28 : True := trivial)
        | (clear tok28; refine st_valG rfl (rn_loadAll (cs := u8s R) H rfl rfl (.tail _ (.tail _ (.head _))) rfl rfl (size_hashL hRl.out)) ?_; have tok29 : True := trivial)
        | (clear tok29; refine st_valG rfl (rn_loadAll (cs := u8s T) H rfl rfl (.tail _ (.head _)) rfl rfl (size_hashL hTl.out)) ?_; have tok30 : True := trivial)
        | (clear tok30; refine st_valG rfl (rn_loadAll (cs := u8s T) H rfl rfl (.head _) rfl rfl (size_hashL hTl.out)) ?_; have tok31 : True := trivial)
        | (clear tok31; refine st_valG rfl (rn_cells rfl rfl rfl rfl hsz48.out (c4.out _ _ H (by simp; omega))) ?_; have tok32 : True := trivial)
        | (clear tok32; refine st_valG rfl (rn_cells rfl rfl rfl rfl hsz48t.out (c5.out _ _ H (by simp; omega))) ?_; have tok33 : True := trivial)
        | (clear tok33; refine st_valG rfl (rn_loadAll (cs := u8s R) H rfl rfl (.tail _ (.tail _ (.tail _ (.head _)))) rfl rfl (size_hashL hRl.out)) ?_; have tok34 : True := trivial)
        | (clear tok34; refine st_valG rfl (rn_loadAll (cs := u8s T) H rfl rfl (.head _) rfl rfl (size_hashL hTl.out)) ?_))
      have h1 := Lib.hid (H.end0 (by simp; omega))
      have hw := Lib.hid (HW.out.end0 (by simp; omega))
      go_ret
      exact ⟨rfl, hw.out.trans h1.out⟩

end Go.Proofs.Ytokichlmgepdpaa
