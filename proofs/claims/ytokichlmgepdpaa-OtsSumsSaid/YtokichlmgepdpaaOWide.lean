/- chirographlaw3.OtsWide: the walk. -/
import Derived.Test.YtokichlmgepdpaaOLaw
import Derived.Test.YtokichlmgepdpaaOArgs
namespace Go.Proofs.Ytokichlmgepdpaa
open Go.RowKit

theorem signP_any (w : World) (id seed : List Int) (h16 : id.length = 16) (h32 : seed.length = 32) (q k : Nat) (hq : q < 32) (hk : k = 1 ∨ k = 2 ∨ k = 4 ∨ k = 8) (mv : Value) (msg : List Int) (hm : Old w mv msg) (hmb : IsBytes msg) (hml : msg.length ≤ 90000) {n : Nat} (hn : n = 36 + 32 * chN k) :
    Calls Try.prog 16 #[.agg (u8s (id ++ seed)).toArray, .int .i64 q, .int .i64 k, mv] w fun e w' => ∃ p c, e = .returned (.tuple #[.slice p n c, .int .i64 0]) ∧ Old w' (.slice p n c) (sigOf id seed q k msg) ∧ Own w w' [] :=
  (sign_any w id seed h16 h32 q k hq hk mv msg hm hmb hml).mono fun e w' ⟨r, h1, h2, h3⟩ => by
    have h4 := h2.1
    obtain ⟨p, c, rfl⟩ := h4
    rw [length_sigOf, ← hn] at h1 h2
    exact ⟨p, c, h1, ⟨h2.2.1, h2.2.2⟩, h3⟩

set_option maxRecDepth 100000 in
set_option maxHeartbeats 4000000 in
theorem otsWide_row (w : World) (ss : List Int) (h48 : ss.length = 48) (_ : ∀ i, i < ss.length → 0 ≤ ss[i]?.getD 0 ∧ ss[i]?.getD 0 < 256) (q0 : Int) (_ : IntKind.i64.min ≤ q0) (_ : q0 ≤ IntKind.i64.max)
    (mv : Value) (msg : List Int) (hm : BytesAt w mv msg) (hml : ∀ k, blk mv = some k → k < w.heap.size) (hmb : ∀ i, i < msg.length → 0 ≤ msg[i]?.getD 0 ∧ msg[i]?.getD 0 < 256) :
    Calls Try.prog 10 #[.agg (u8s ss).toArray, .int .i64 q0, mv] w fun e w' => e = .returned (.bool true) ∧ Own w w' [] := by
  rename_i q1 q2 q3
  clear q1 q2 q3
  have H := Own.refl w
  have hO : Old w mv msg := ⟨hm, hml⟩
  obtain ⟨pm, cm, rfl⟩ := hO.shape
  obtain ⟨n, hn⟩ : ∃ n, n = msg.length := ⟨_, rfl⟩
  rw [← hn] at hO ⊢
  obtain ⟨id, seed, rfl, h16, h32⟩ := split48 h48
  have hsz := Lib.hid (size_idL h16)
  have hsz48 := Lib.hid (size_secretL h16 h32)
  have hto := Lib.hid otold_any
  by_cases hbig : 40 < n
  · clear hm hml hmb hO hn h48 h16 h32
    go_enter Try.func10, Try.ntmps10
    go_wp2_with (first
      | (refine st_new rfl (rn_box (cs := u8s (id ++ seed)) H rfl rfl rfl) ?_; clear H; intro b4 w1 hb4 H)
      | (go_at_call 14; refine (hto.out _).mono ?_; rintro e w2 ⟨rfl, h3⟩; have H2 := H.call0 h3; clear H h3; have H := H2; clear H2))
    have h1 := Lib.hid (H.end0 (by simpa using hb4))
    go_ret
    exact ⟨rfl, h1.out⟩
  · have hbig' : n ≤ 40 := by omega
    have hOw := Lib.hid hO
    obtain ⟨q, hqe, hq⟩ := rem_wrap q0 32 (by omega) (by omega)
    have hq32 : q < 32 := by omega
    have hpub : Hid (∀ w', Calls Try.prog 17 #[.agg (u8s (id ++ seed)).toArray, .int .i64 q, .int .i64 8] w' fun e w'' => e = .returned (.tuple #[.agg (u8s (pubOf id seed q 8)).toArray, .int .i64 0]) ∧ Own w' w'' []) := fun w' => public_any w' id seed h16 h32 q 8 hq32 (by omega)
    have hsig : Hid (∀ w' v, Old w' v msg → Calls Try.prog 16 #[.agg (u8s (id ++ seed)).toArray, .int .i64 q, .int .i64 8, v] w' fun e w'' => ∃ p c, e = .returned (.tuple #[.slice p 1124 c, .int .i64 0]) ∧ Old w'' (.slice p 1124 c) (sigOf id seed q 8 msg) ∧ Own w' w'' []) := fun w' v h => signP_any w' id seed h16 h32 q 8 hq32 (by omega) v msg h hmb (by omega) rfl
    have hcan : Hid (∀ w' v u, Old w' v msg → Old w' u (sigOf id seed q 8 msg) → Calls Try.prog 18 #[.agg (u8s id).toArray, .int .i64 q, .int .i64 8, v, u] w' fun e w'' => e = .returned (.tuple #[.agg (u8s (pubOf id seed q 8)).toArray, .int .i64 0]) ∧ Own w' w'' []) := fun w' v u h1 h2 => by
      have h := cand_any w' id h16 q 8 hq32 (by omega) v u msg _ h1 hmb (by omega) h2 (isBytes_sigOf _ _ _ _ _) (by rw [length_sigOf]; decide)
      rw [cand_sig, candE_sig] at h
      exact h
    obtain ⟨R, hR⟩ : ∃ R, R = pubOf id seed q 8 := ⟨_, rfl⟩
    have hRl : Hid (R.length = 32) := by show _ = _; rw [hR]; rfl
    obtain ⟨sg, hsg⟩ : ∃ R, R = sigOf id seed q 8 msg := ⟨_, rfl⟩
    simp only [← hR, ← hsg] at hpub hsig hcan
    have eZ : ∀ w, (Op.equalIn 10000 23 (.agg (u8s R).toArray) (.agg (u8s R).toArray)).run Try.prog w = .ok true w := fun w => by rw [eqHash w _ _ hRl.out hRl.out]; simp
    clear hm hml hmb hO hn h48 h16 h32 hR hsg hbig hq
    go_enter Try.func10, Try.ntmps10
    have tok1 : True := trivial
    go_wp2_with (first
      | (clear tok1; refine st_new rfl (rn_box (cs := u8s (id ++ seed)) H rfl rfl rfl) ?_; clear H; intro b3 w1 hb3 H; have tok2 : True := trivial)
      | (clear tok2; refine st_val rfl (rn_loadAll (cs := u8s (id ++ seed)) H rfl rfl (.head _) rfl rfl hsz48.out) ?_; have tok3 : True := trivial)
      | (clear tok3; go_at_call 17; refine (hpub.out _).mono ?_; rintro e w3 ⟨rfl, h3⟩; have H2 := H.call0 h3; clear H h3; have H := H2; clear H2; have tok4 : True := trivial)
      | (clear tok4; refine st_new rfl (rn_alloc H rfl info_hash) ?_; clear H; intro b8 w4 hb8 H; have tok5 : True := trivial)
      | (clear tok5; refine st_skip rfl (rn_storeAll (vs := u8s R) H rfl rfl rfl (size_hashL hRl.out) .head (by rw [length_ints, length_ints, hRl.out]; rfl) (oneCell_ints _ _)) ?_; clear H; intro w5 H; have tok6 : True := trivial)
      | (clear tok6; refine st_val rfl (rn_loadAll (cs := u8s (id ++ seed)) H rfl rfl (.tail _ (.head _)) rfl rfl hsz48.out) ?_; have tok7 : True := trivial)
      | (clear tok7; go_at_call 16; refine (hsig.out _ _ (hOw.out.mv H (by simp; omega))).mono ?_; rintro e w6 ⟨pa, ca, rfl, hA, h3⟩; have H2 := H.call0 h3; clear H h3; have H := H2; clear H2; have A6 := Lib.hid hA; clear hA; have tok8 : True := trivial)
      | (clear tok8; refine st_val rfl (rn_cells rfl rfl rfl rfl hsz.out (fun j v hj => H.rowL (.tail _ (.head _)) j v hj)) ?_; have tok9 : True := trivial)
      | (clear tok9; go_at_call 18; refine (hcan.out _ _ _ (hOw.out.mv H (by simp; omega)) A6.out).mono ?_; rintro e w7 ⟨rfl, h3⟩; have H2 := H.call0 h3; clear H h3; have H := H2; clear H2; have tok10 : True := trivial)
      | (clear tok10; refine st_new rfl (rn_alloc H rfl info_hash) ?_; clear H; intro b12 w8 hb12 H; have tok11 : True := trivial)
      | (clear tok11; refine st_skip rfl (rn_storeAll (vs := u8s R) H rfl rfl rfl (size_hashL hRl.out) .head (by rw [length_ints, length_ints, hRl.out]; rfl) (oneCell_ints _ _)) ?_; clear H; intro w9 H; have tok12 : True := trivial)
      | (clear tok12; go_at_call 14; refine (hto.out _).mono ?_; rintro e w10 ⟨rfl, h3⟩; have H2 := H.call0 h3; clear H h3; have H := H2; clear H2; have tok13 : True := trivial)
      | (clear tok13; refine st_valG rfl (rn_loadAll (cs := u8s R) H rfl rfl (.head _) rfl rfl (size_hashL hRl.out)) ?_; have tok14 : True := trivial)
      | (clear tok14; refine st_valG rfl (rn_loadAll (cs := u8s R) H rfl rfl (.tail _ (.head _)) rfl rfl (size_hashL hRl.out)) ?_))
    have h1 := Lib.hid (H.end0 (by simp; omega))
    go_ret
    exact ⟨rfl, h1.out⟩

end Go.Proofs.Ytokichlmgepdpaa
