/- chirographlaw5.HssRaw: the walk. -/
import Derived.Test.YtfihlmnbonnekaaGreatRHvB
import Derived.Test.YtfihlmnbonnekaaGreatHKey
namespace Go.Proofs.YtfihlmnbonnekaaGreat
open Go.RowKit

set_option maxRecDepth 100000 in
set_option maxHeartbeats 8000000 in
theorem hssRaw_row (w : World) (pv : Value) (pub : List Int) (hpub : BytesAt w pv pub) (lpub : ∀ k, blk pv = some k → k < w.heap.size) (bpub : ∀ i, i < pub.length → 0 ≤ pub[i]?.getD 0 ∧ pub[i]?.getD 0 < 256) (mv : Value) (msg : List Int) (hmsg : BytesAt w mv msg) (lmsg : ∀ k, blk mv = some k → k < w.heap.size) (bmsg : ∀ i, i < msg.length → 0 ≤ msg[i]?.getD 0 ∧ msg[i]?.getD 0 < 256) (sv : Value) (sig : List Int) (hsig : BytesAt w sv sig) (lsig : ∀ k, blk sv = some k → k < w.heap.size) (bsig : ∀ i, i < sig.length → 0 ≤ sig[i]?.getD 0 ∧ sig[i]?.getD 0 < 256) :
    Calls Tryz.prog 7 #[pv, mv, sv] w fun e w' => e = .returned (.bool true) ∧ Own w w' [] := by
  have H := Own.refl w
  have hto := Lib.hid htold_any
  have hp : Old w pv pub := ⟨hpub, lpub⟩
  have hm : Old w mv msg := ⟨hmsg, lmsg⟩
  have hs : Old w sv sig := ⟨hsig, lsig⟩
  have pO := Lib.hid hp
  have mO := Lib.hid hm
  have sO := Lib.hid hs
  obtain ⟨pp, cp, rfl⟩ := hp.shape
  obtain ⟨pm, cm, rfl⟩ := hm.shape
  obtain ⟨ps, cs, rfl⟩ := hs.shape
  have hv : Hid (pub.length ≤ 300 → msg.length ≤ 300 → sig.length ≤ 300 → ∀ w' v u t, Old w' v pub → Old w' u msg → Old w' t sig → Calls Tryz.prog 30 #[v, u, t] w' fun e w'' => e = .returned (.int .i64 (hverL pub msg sig)) ∧ Own w' w'' []) := fun g1 g2 g3 w' v u t h1 h2 h3 => hver_any w' v u t pub msg sig h1 bpub h2 bmsg (by omega) h3 bsig (by omega) (by omega)
  have hr : Hid (msg.length ≤ 300 → ∀ w' v u t, Old w' v pub → Old w' u msg → Old w' t sig → Calls Tryz.prog 31 #[v, u, t] w' fun e w'' => e = .returned (.int .i64 (hverL pub msg sig)) ∧ Own w' w'' []) := fun g2 w' v u t h1 h2 h3 => rhver_any w' v u t pub msg sig h1 bpub h2 bmsg (by omega) h3 bsig
  obtain ⟨V, hV⟩ : ∃ V, V = hverL pub msg sig := ⟨_, rfl⟩
  rw [← hV] at hv hr
  obtain ⟨n1, hn1⟩ : ∃ n, n = pub.length := ⟨_, rfl⟩
  obtain ⟨n2, hn2⟩ : ∃ n, n = msg.length := ⟨_, rfl⟩
  obtain ⟨n3, hn3⟩ : ∃ n, n = sig.length := ⟨_, rfl⟩
  rw [← hn1] at hv pO ⊢
  rw [← hn2] at hv hr mO ⊢
  rw [← hn3] at hv sO ⊢
  clear hp hm hs hpub hmsg hsig lpub lmsg lsig bpub bmsg bsig hV hn1 hn2 hn3
  by_cases g1 : 300 < n1
  · go_enter Tryz.func7, Tryz.ntmps7
    have tok1 : True := trivial
    go_wp2_with (first
      | (clear tok1; go_at_call 22; refine (hto.out _).mono ?_; rintro e w1 ⟨rfl, h3⟩; have H2 := H.call0 h3; clear H h3; have H := H2; clear H2; have tok2 : True := trivial))
    have HE := Lib.hid H
    clear H
    go_ret
    exact ⟨rfl, HE.out⟩
  by_cases g2 : 300 < n2
  · go_enter Tryz.func7, Tryz.ntmps7
    have tok1 : True := trivial
    go_wp2_with (first
      | (clear tok1; go_at_call 22; refine (hto.out _).mono ?_; rintro e w1 ⟨rfl, h3⟩; have H2 := H.call0 h3; clear H h3; have H := H2; clear H2; have tok2 : True := trivial))
    have HE := Lib.hid H
    clear H
    go_ret
    exact ⟨rfl, HE.out⟩
  by_cases g3 : 300 < n3
  · go_enter Tryz.func7, Tryz.ntmps7
    have tok1 : True := trivial
    go_wp2_with (first
      | (clear tok1; go_at_call 22; refine (hto.out _).mono ?_; rintro e w1 ⟨rfl, h3⟩; have H2 := H.call0 h3; clear H h3; have H := H2; clear H2; have tok2 : True := trivial))
    have HE := Lib.hid H
    clear H
    go_ret
    exact ⟨rfl, HE.out⟩
  have hv2 := Lib.hid (hv.out (by omega) (by omega) (by omega))
  have hr2 := Lib.hid (hr.out (by omega))
  go_enter Tryz.func7, Tryz.ntmps7
  have tok1 : True := trivial
  go_wp2_with (first
    | (clear tok1; go_at_call 22; refine (hto.out _).mono ?_; rintro e w1 ⟨rfl, h3⟩; have H2 := H.call0 h3; clear H h3; have H := H2; clear H2; have tok2 : True := trivial)
    | (clear tok2; go_at_call 30; refine (hv2.out _ _ _ _ (pO.out.mv H (by simp)) (mO.out.mv H (by simp)) (sO.out.mv H (by simp))).mono ?_; rintro e w2 ⟨rfl, h3⟩; have H2 := H.call0 h3; clear H h3; have H := H2; clear H2; have tok3 : True := trivial)
    | (clear tok3; go_at_call 31; refine (hr2.out _ _ _ _ (pO.out.mv H (by simp)) (mO.out.mv H (by simp)) (sO.out.mv H (by simp))).mono ?_; rintro e w3 ⟨rfl, h3⟩; have H2 := H.call0 h3; clear H h3; have H := H2; clear H2; have tok4 : True := trivial))
  have HE := Lib.hid H
  clear H
  go_ret
  exact ⟨rfl, HE.out⟩

end Go.Proofs.YtfihlmnbonnekaaGreat
