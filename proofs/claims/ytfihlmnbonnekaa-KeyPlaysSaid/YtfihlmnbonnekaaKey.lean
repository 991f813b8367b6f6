/- key: New, Past, Public, Reserve, Reserved, Next, Sign. -/
import Derived.Test.YtfihlmnbonnekaaLBuf
import Derived.Test.YtfihlmnbonnekaaLTold
namespace Go.Proofs.Ytfihlmnbonnekaa
open Go.RowKit

/-- a signer's cells -/
def sgC (tb : Nat) (n r : Int) : List Value := [.pointer (some ⟨tb, 0, none⟩), .int .i64 n, .int .i64 r]

/-- '(*sync/atomic.Int64).Load' -/
theorem iload_any (w : World) (b i : Nat) (n : Int) (hc : w.cell? ⟨b, i, none⟩ = some (.int .i64 n)) : Calls Try.prog 42 #[.pointer (some ⟨b, i, none⟩)] w fun e w' => e = .returned (.int .i64 n) ∧ Own w w' [] := by
  have hl := run_call_load (P := Try.prog) Try.func72 (by kernel_rfl) (by kernel_rfl) (by kernel_rfl) .i64 (by kernel_rfl) hc
  go_enter Try.func42, Try.ntmps42
  go_wp2
  go_ret
  exact ⟨rfl, Own.refl w⟩
/-- '(*sync/atomic.Int64).Store' -/
theorem istore_any {w0 w : World} {L L' : List Ent} {b i : Nat} {cs : List Value} {T : TypeId} {v : Value} (n : Int) (H : Own w0 w L) (hv : cs[i]? = some v) (hm : At L b cs T (cs.set i (.int .i64 n)) L') :
    Calls Try.prog 69 #[.pointer (some ⟨b, i, none⟩), .int .i64 n] w fun e w' => e = .returned (.tuple #[]) ∧ Own w0 w' L' := by
  have hc : w.cell? ⟨b, i, none⟩ = some v := (H.cell hm.mem i).trans hv
  have hst := run_call_store (P := Try.prog) Try.func95 (by kernel_rfl) (by kernel_rfl) (by kernel_rfl) (by kernel_rfl) (k := .i64) (y := n) hc (H.fz hm.mem i)
  have H2 := Lib.hid (H.setC hm)
  clear H hm hv hc
  go_enter Try.func69, Try.ntmps69
  go_wp2
  go_end0
  exact ⟨rfl, H2.out⟩

set_option maxRecDepth 100000 in
theorem knext_any (w : World) (kb : Nat) (n : Int) (hc : w.cell? ⟨kb, 1, none⟩ = some (.int .i64 n)) : Calls Try.prog 15 #[.pointer (some ⟨kb, 0, none⟩)] w fun e w' => e = .returned (.int .i64 n) ∧ Own w w' [] := by
  have hl := Lib.hid (iload_any w kb 1 n hc)
  clear hc
  go_enter Try.func15, Try.ntmps15
  go_wp2_with (go_at_call 42; refine hl.out.mono ?_; rintro e w1 ⟨rfl, h⟩; have H := Lib.hid h; clear h)
  go_ret
  exact ⟨rfl, H.out⟩
set_option maxRecDepth 100000 in
theorem knext_nil (w : World) : Calls Try.prog 15 #[.pointer none] w fun e w' => e = .returned (.int .i64 0) ∧ Own w w' [] := by
  go_enter Try.func15, Try.ntmps15
  go_wp2
  go_ret
  exact ⟨rfl, Own.refl w⟩
set_option maxRecDepth 100000 in
theorem kresd_any (w : World) (kb : Nat) (n : Int) (hc : w.cell? ⟨kb, 2, none⟩ = some (.int .i64 n)) : Calls Try.prog 21 #[.pointer (some ⟨kb, 0, none⟩)] w fun e w' => e = .returned (.int .i64 n) ∧ Own w w' [] := by
  have hc' := Lib.hid hc
  clear hc
  go_enter Try.func21, Try.ntmps21
  go_wp2_with (refine st_val rfl (rn_cell rfl rfl rfl rfl hc'.out) ?_)
  go_ret
  exact ⟨rfl, Own.refl w⟩
set_option maxRecDepth 100000 in
theorem kresd_nil (w : World) : Calls Try.prog 21 #[.pointer none] w fun e w' => e = .returned (.int .i64 0) ∧ Own w w' [] := by
  go_enter Try.func21, Try.ntmps21
  go_wp2
  go_ret
  exact ⟨rfl, Own.refl w⟩
set_option maxRecDepth 100000 in
theorem kreserve_nil (w : World) (m : Int) : Calls Try.prog 13 #[.pointer none, .int .i64 m] w fun e w' => e = .returned (.int .i64 1) ∧ Own w w' [] := by
  go_enter Try.func13, Try.ntmps13
  go_wp2
  go_ret
  exact ⟨rfl, Own.refl w⟩
set_option maxRecDepth 100000 in
theorem kreserve_low (w : World) (kb : Nat) (r m : Int) (hc : w.cell? ⟨kb, 2, none⟩ = some (.int .i64 r)) (h : m < r) : Calls Try.prog 13 #[.pointer (some ⟨kb, 0, none⟩), .int .i64 m] w fun e w' => e = .returned (.int .i64 1) ∧ Own w w' [] := by
  have hc' := Lib.hid hc
  clear hc
  go_enter Try.func13, Try.ntmps13
  go_wp2_with (refine st_valG rfl (rn_cell rfl rfl rfl rfl hc'.out) ?_)
  go_ret
  exact ⟨rfl, Own.refl w⟩
set_option maxRecDepth 100000 in
theorem kreserve_high (w : World) (kb : Nat) (r m : Int) (hc : w.cell? ⟨kb, 2, none⟩ = some (.int .i64 r)) (h1 : r ≤ m) (h2 : 32 < m) : Calls Try.prog 13 #[.pointer (some ⟨kb, 0, none⟩), .int .i64 m] w fun e w' => e = .returned (.int .i64 1) ∧ Own w w' [] := by
  have hc' := Lib.hid hc
  clear hc
  go_enter Try.func13, Try.ntmps13
  go_wp2_with (refine st_valG rfl (rn_cell rfl rfl rfl rfl hc'.out) ?_)
  go_ret
  exact ⟨rfl, Own.refl w⟩
set_option maxRecDepth 100000 in
theorem kreserve_ok (w : World) (kb tb : Nat) (n r m : Int) (H : Own w w [(kb, sgC tb n r, 74)]) (h1 : r ≤ m) (h2 : m ≤ 32) : Calls Try.prog 13 #[.pointer (some ⟨kb, 0, none⟩), .int .i64 m] w fun e w' => e = .returned (.int .i64 0) ∧ Own w w' [(kb, sgC tb n m, 74)] := by
  have hc' : Hid (w.cell? ⟨kb, 2, none⟩ = some (.int .i64 r)) := H.cell (.head _) 2
  go_enter Try.func13, Try.ntmps13
  go_wp2_with (first
    | (refine st_valG rfl (rn_cell rfl rfl rfl rfl hc'.out) ?_)
    | (refine st_skip rfl (rn_store (cs := sgC tb n r) (v := .int .i64 m) H rfl rfl rfl (by kernel_rfl) .head (Nat.le_refl 3) rfl) ?_; clear H; intro w1 H))
  have HE := Lib.hid H
  clear H
  go_ret
  exact ⟨rfl, HE.out⟩
set_option maxRecDepth 100000 in
theorem kpast_any (w : World) (kb tb : Nat) (n r u : Int) (H : Own w w [(kb, [.pointer (some ⟨tb, 0, none⟩), .int .i64 n, .int .i64 r], 74)]) : Calls Try.prog 38 #[.pointer (some ⟨kb, 0, none⟩), .int .i64 u] w fun e w' => e = .returned (.tuple #[]) ∧ Own w w' [(kb, sgC tb u u, 74)] := by
  have tok1 : True := trivial
  go_enter Try.func38, Try.ntmps38
  go_wp2_with (first
    | (clear tok1; go_at_call 69; refine (istore_any (i := 1) (L' := [(kb, [.pointer (some ⟨tb, 0, none⟩), .int .i64 u, .int .i64 r], 74)]) u H rfl .head).mono ?_; rintro e w1 ⟨rfl, H2⟩; clear H; have H := H2; clear H2)
    | (refine st_skip rfl (rn_store (cs := [.pointer (some ⟨tb, 0, none⟩), .int .i64 u, .int .i64 r]) (v := .int .i64 u) H rfl rfl rfl (by kernel_rfl) .head (Nat.le_refl 3) rfl) ?_; clear H; intro w2 H))
  have HE := Lib.hid H
  clear H
  go_end0
  exact ⟨rfl, HE.out⟩
set_option maxRecDepth 100000 in
theorem kpub_nil (w : World) : Calls Try.prog 22 #[.pointer none] w fun e w' => e = .returned (.slice none 0 0) ∧ Own w w' [] := by
  go_enter Try.func22, Try.ntmps22
  go_wp2
  go_ret
  exact ⟨rfl, Own.refl w⟩
set_option maxRecDepth 100000 in
theorem kpub_any (w : World) (kb tb : Nat) (hc : w.cell? ⟨kb, 0, none⟩ = some (.pointer (some ⟨tb, 0, none⟩))) (id seed : List Int) (h16 : id.length = 16) (h32 : seed.length = 32) (k : Nat) (hk : k = 1 ∨ k = 2 ∨ k = 4 ∨ k = 8) (cs : List Value) (hcs : IsTree id seed k cs) (H0 : Own w w [(tb, cs, 104)]) :
    Calls Try.prog 22 #[.pointer (some ⟨kb, 0, none⟩)] w fun e w' => ∃ p c, e = .returned (.slice p 56 c) ∧ Old w' (.slice p 56 c) (pubL id seed k) ∧ NewS w.heap.size (.slice p 56 c) ∧ Own w w' [(tb, fullT id seed k, 104)] := by
  have hp := Lib.hid (lpub_any w tb id seed h16 h32 k hk cs hcs H0)
  have hc' := Lib.hid hc
  clear hc h16 h32 hk hcs H0
  go_enter Try.func22, Try.ntmps22
  go_wp2_with (first
    | (refine st_val rfl (rn_cell rfl rfl rfl rfl hc'.out) ?_)
    | (go_at_call 30; refine hp.out.mono ?_; rintro e w1 ⟨p, c, rfl, h1, h2, h3⟩; have G := Lib.hid (And.intro h1 (And.intro h2 h3)); clear h1 h2 h3))
  go_ret
  exact ⟨_, _, rfl, G.out⟩
set_option maxRecDepth 100000 in
theorem knew_w (w : World) (ss : List Int) (h48 : ss.length = 48) (x u : Int) (hx : chainsOf x = 0) :
    Calls Try.prog 11 #[.agg (u8s ss).toArray, .int .i64 x, .int .i64 u] w fun e w' => e = .returned (.tuple #[.pointer none, .int .i64 1]) ∧ Own w w' [] := by
  have H := Own.refl w
  have hb := Lib.hid (fun w' => lnew_bad w' ss x hx)
  have hsz : Hid ((Try.prog.info? 30).map (·.size) = some (u8s ss).length) := by show _ = _; rw [length_ints, h48]; exact size_secret
  clear h48 hx
  go_enter Try.func11, Try.ntmps11
  have tok1 : True := trivial
  go_wp2_with (first
    | (clear tok1; refine st_new rfl (rn_box (cs := u8s ss) H rfl rfl rfl) ?_; clear H; intro b3 w1 hb3 H; have tok2 : True := trivial)
    | (clear tok2; refine st_val rfl (rn_loadAll (cs := u8s ss) H rfl rfl (.head _) rfl rfl hsz.out) ?_; have tok3 : True := trivial)
    | (clear tok3; go_at_call 27; refine (hb.out _).mono ?_; rintro e w2 ⟨rfl, h3⟩; have H2 := H.call0 h3; clear H h3; have H := H2; clear H2; have tok4 : True := trivial))
  have h1 := Lib.hid (H.end0 (by simpa using hb3))
  clear H
  go_ret2
  exact ⟨rfl, h1.out⟩
set_option maxRecDepth 100000 in
theorem knew_u (w : World) (ss : List Int) (h48 : ss.length = 48) (k : Nat) (hk : k = 1 ∨ k = 2 ∨ k = 4 ∨ k = 8) (u : Int) (hu : u < 0 ∨ (0 ≤ u ∧ 32 < u)) :
    Calls Try.prog 11 #[.agg (u8s ss).toArray, .int .i64 k, .int .i64 u] w fun e w' => e = .returned (.tuple #[.pointer none, .int .i64 1]) ∧ Own w w' [] := by
  have H := Own.refl w
  have hb := Lib.hid (fun w' => lnew_any w' ss h48 k hk)
  have hsz : Hid ((Try.prog.info? 30).map (·.size) = some (u8s ss).length) := by show _ = _; rw [length_ints, h48]; exact size_secret
  clear h48 hk
  rcases hu with hu | ⟨hu1, hu⟩
  all_goals
    go_enter Try.func11, Try.ntmps11
    have tok1 : True := trivial
    go_wp2_with (first
      | (clear tok1; refine st_new rfl (rn_box (cs := u8s ss) H rfl rfl rfl) ?_; clear H; intro b3 w1 hb3 H; have tok2 : True := trivial)
      | (clear tok2; refine st_val rfl (rn_loadAll (cs := u8s ss) H rfl rfl (.head _) rfl rfl hsz.out) ?_; have tok3 : True := trivial)
      | (clear tok3; go_at_call 27; refine (hb.out _).mono ?_; rintro e w2 ⟨bt, rfl, hbt, h3⟩; have H2 := H.call0 (h3.end0 (by simpa using hbt)); clear H h3; have H := H2; clear H2; have tok4 : True := trivial))
    have h1 := Lib.hid (H.end0 (by simpa using hb3))
    clear H
    go_ret2
    exact ⟨rfl, h1.out⟩
theorem sg_fill {v : Value} : fillL [(0, 1), (1, 1), (2, 1)] [.pointer none, .int .i64 0, .int .i64 0] [(0, [v])] = some [v, .int .i64 0, .int .i64 0] := rfl
set_option maxRecDepth 100000 in
set_option maxHeartbeats 4000000 in
theorem knew_any (w : World) (ss : List Int) (h48 : ss.length = 48) (k : Nat) (hk : k = 1 ∨ k = 2 ∨ k = 4 ∨ k = 8) (u : Int) (hu0 : 0 ≤ u) (hu1 : u ≤ 32) :
    Calls Try.prog 11 #[.agg (u8s ss).toArray, .int .i64 k, .int .i64 u] w fun e w' => ∃ kb tb, e = .returned (.tuple #[.pointer (some ⟨kb, 0, none⟩), .int .i64 0]) ∧ w.heap.size ≤ kb ∧ w.heap.size ≤ tb ∧ Own w w' [(kb, sgC tb u u, 74), (tb, treeG ss k 0 0 (List.replicate 2048 0) 0, 104)] := by
  have H := Own.refl w
  have hb := Lib.hid (fun w' => lnew_any w' ss h48 k hk)
  have hsz : Hid ((Try.prog.info? 30).map (·.size) = some (u8s ss).length) := by show _ = _; rw [length_ints, h48]; exact size_secret
  clear h48 hk
  go_enter Try.func11, Try.ntmps11
  have tok1 : True := trivial
  go_wp2_with (first
    | (clear tok1; refine st_new rfl (rn_box (cs := u8s ss) H rfl rfl rfl) ?_; clear H; intro b3 w1 hb3 H; have tok2 : True := trivial)
    | (clear tok2; refine st_val rfl (rn_loadAll (cs := u8s ss) H rfl rfl (.head _) rfl rfl hsz.out) ?_; have tok3 : True := trivial)
    | (clear tok3; go_at_call 27; refine (hb.out _).mono ?_; rintro e w2 ⟨bt, rfl, hbt, h3⟩; have hbt0 := Nat.le_trans H.size hbt; have H2 := H.callNew h3 hbt; clear H h3; have H := H2; clear H2; have tok4 : True := trivial)
    | (clear tok4; refine st_val rfl (rn_buildS (r := [.pointer (some ⟨bt, 0, none⟩), .int .i64 0, .int .i64 0]) rfl rfl (by kernel_rfl) (by kernel_rfl) sg_fill) ?_; have tok5 : True := trivial)
    | (clear tok5; refine st_new rfl (rn_box (cs := [.pointer (some ⟨bt, 0, none⟩), .int .i64 0, .int .i64 0]) H rfl rfl rfl) ?_; clear H; intro kb w3 hkb H; have tok6 : True := trivial)
    | (clear tok6; go_at_call 38; refine (kpast_any _ kb bt 0 0 u (H.sub1 (.head _))).mono ?_; rintro e w4 ⟨rfl, h3⟩; have H2 := Own.next (L := [_]) H h3 rfl; clear H h3; have H := H2; clear H2; have tok7 : True := trivial))
  have h1 := Lib.hid (Own.dropR (L1 := [_, _]) H (by simpa using hb3))
  clear H
  go_ret2
  exact ⟨_, _, rfl, hkb, hbt0, h1.out⟩
set_option maxRecDepth 100000 in
theorem ksign_nil (w : World) (mv : Value) : Calls Try.prog 14 #[.pointer none, mv] w fun e w' => e = .returned (.tuple #[.slice none 0 0, .int .i64 1]) ∧ Own w w' [] := by
  go_enter Try.func14, Try.ntmps14
  go_wp2
  go_ret2
  exact ⟨rfl, Own.refl w⟩
set_option maxRecDepth 100000 in
theorem ksign_empty (w : World) (kb : Nat) (n : Int) (mv : Value) (hc : w.cell? ⟨kb, 1, none⟩ = some (.int .i64 n)) (hn : 32 ≤ n) : Calls Try.prog 14 #[.pointer (some ⟨kb, 0, none⟩), mv] w fun e w' => e = .returned (.tuple #[.slice none 0 0, .int .i64 4]) ∧ Own w w' [] := by
  have hl := Lib.hid (knext_any w kb n hc)
  clear hc
  go_enter Try.func14, Try.ntmps14
  go_wp2_with (go_at_call 15; refine hl.out.mono ?_; rintro e w1 ⟨rfl, h⟩; have H := Lib.hid h; clear h)
  go_ret2
  exact ⟨rfl, H.out⟩
set_option maxRecDepth 100000 in
set_option maxHeartbeats 4000000 in
theorem ksign_none (w : World) (kb tb : Nat) (n r : Int) (mv : Value) (hn : n < 32) (hr : r ≤ n) (H0 : Own w w [(kb, sgC tb n r, 74)]) : Calls Try.prog 14 #[.pointer (some ⟨kb, 0, none⟩), mv] w fun e w' => e = .returned (.tuple #[.slice none 0 0, .int .i64 6]) ∧ Own w w' [] := by
  have hnx : Hid (∀ w', w'.cell? ⟨kb, 1, none⟩ = some (.int .i64 n) → Calls Try.prog 15 #[.pointer (some ⟨kb, 0, none⟩)] w' fun e w'' => e = .returned (.int .i64 n) ∧ Own w' w'' []) := fun w' h => knext_any w' kb n h
  have hk1 : Hid (∀ w', Own w w' [] → w'.cell? ⟨kb, 1, none⟩ = some (.int .i64 n)) := fun w' h => (H0.call0 h).cell (.head _) 1
  have hk2 : Hid (∀ w', Own w w' [] → w'.cell? ⟨kb, 2, none⟩ = some (.int .i64 r)) := fun w' h => (H0.call0 h).cell (.head _) 2
  clear H0
  go_enter Try.func14, Try.ntmps14
  go_wp2_with (go_at_call 15; refine (hnx.out _ (hk1.out _ (Own.refl w))).mono ?_; rintro e w1 ⟨rfl, h⟩; have HW := Lib.hid h; clear h)
  have hk3 : Hid (∀ w', Own w1 w' [] → w'.cell? ⟨kb, 1, none⟩ = some (.int .i64 n)) := fun w' h => hk1.out _ (HW.out.trans h)
  have hk4 : Hid (∀ w', Own w1 w' [] → w'.cell? ⟨kb, 2, none⟩ = some (.int .i64 r)) := fun w' h => hk2.out _ (HW.out.trans h)
  refine region_grow 7 (by kernel_rfl) (by kernel_rfl) (by kernel_rfl) [.val (.pointer (some ⟨kb, 0, none⟩)), .val (.int .i64 n), .val (.pointer (some ⟨kb, 0, none⟩)), .val (.pointer (some ⟨kb, 0, none⟩)), .val (.pointer (some ⟨kb, 2, none⟩)), .val (.int .i64 r), .val (.bool true)] rfl ?_
  have tok3 : True := trivial
  try go_frame
  repeat (first
    | (clear tok3; refine sp_callN (v := .int .i64 n) (args := #[.pointer (some ⟨kb, 0, none⟩)]) rfl rfl (by simp [Act.eval]) Try.func15 (by kernel_rfl) (by kernel_rfl) (fun w' hw' _ => hnx.out w' (hk3.out w' hw')) ?_; try go_frame; have tok4 : True := trivial)
    | (clear tok4; refine sp_run (v := .int .i64 r) rfl (fun w' hw' _ => rn_cell rfl rfl rfl rfl (hk4.out w' hw')) ?_; try go_frame; have tok5 : True := trivial)
    | (refine sp_val (fun w' hw' hF => ?_) ⟨_, rfl, Nat.le_of_ble_eq_true rfl⟩ ?_
       · go_big_quiet_step (fail)
         exact rfl
       try go_frame))
  refine sp_nil ?_
  intro w2 hw' hF
  have HE := Lib.hid (HW.out.trans hw')
  clear hw' hF
  simp only [List.drop_succ_cons, List.drop_zero]
  go_wp2
  go_ret2
  exact ⟨rfl, HE.out⟩
/-- bytes of a call's own, with a code that says all went right -/
def TupR (B m : Nat) (xs : List Int) : World → Value → Prop := fun w v => ∃ g c, v = .tuple #[.slice (some ⟨g, 0, none⟩) m c, .int .i64 0] ∧ m ≤ c ∧ B ≤ g ∧ g < w.heap.size ∧ BufS B xs w (.slice (some ⟨g, 0, none⟩) m c)
def SlR (B m : Nat) (xs : List Int) : World → Value → Prop := fun w v => ∃ g c, v = .slice (some ⟨g, 0, none⟩) m c ∧ m ≤ c ∧ B ≤ g ∧ g < w.heap.size ∧ BufS B xs w (.slice (some ⟨g, 0, none⟩) m c)
theorem TupR.mono (B m : Nat) (xs : List Int) : Mono (TupR B m xs) := fun _ _ _ h ⟨g, c, h1, h2, h3, h4, h5⟩ => ⟨g, c, h1, h2, h3, Nat.lt_of_lt_of_le h4 h.size, h5.mv h (by simp)⟩
theorem SlR.mono (B m : Nat) (xs : List Int) : Mono (SlR B m xs) := fun _ _ _ h ⟨g, c, h1, h2, h3, h4, h5⟩ => ⟨g, c, h1, h2, h3, Nat.lt_of_lt_of_le h4 h.size, h5.mv h (by simp)⟩
theorem SlR.pres (B m b : Nat) (xs : List Int) (T : TypeId) (hb : b < B) : ∀ w1 w2 v, (∃ cs, Own w1 w2 [(b, cs, T)]) → SlR B m xs w1 v → SlR B m xs w2 v := fun _ _ _ ⟨_, h⟩ ⟨g, c, h1, h2, h3, h4, h5⟩ => ⟨g, c, h1, h2, h3, Nat.lt_of_lt_of_le h4 h.size, h5.mv h (by simp; omega)⟩
theorem yields_quiet {P : Program} {ops : Array Oper} {o : Oper} {a : Act} {w : World} {v : Value} (hw : Region.wanted o (yielded ops a.tmps) = true) (hq : wpQuiet P ops (fun w'' => w'' = w) (fun a' => a' = a.put o.dst v) [o] a) (hd : ∃ d, o.dst = some d ∧ d < a.tmps.size) : YieldsTo P o a w (fun v' w'' => Own w w'' [] ∧ v' = v) := by
  obtain ⟨d, hd1, hd2⟩ := hd
  have hput : ∀ u, a.put o.dst u = a.put o.dst v → u = v := by
    intro u hu
    have := congrArg (fun x : Act => x.tmps[d]?) hu
    simpa [Act.put, hd1, hd2] using this
  unfold wpQuiet at hq
  rw [if_pos hw] at hq
  obtain ⟨u, hu1, hu2⟩ := hq
  obtain rfl := hput u hu2
  have hq' := hu1 w rfl
  unfold Oper.quietAt at hq'
  unfold YieldsTo
  generalize (execOp a.eval o).run P w = r at *
  cases r with
  | halt x w'' => exact hq'.elim
  | ok nx w'' =>
    cases nx <;> simp only [Oper.quietUpon] at hq' ⊢
    case value x => obtain ⟨rfl, rfl⟩ := hq'; exact ⟨Own.refl _, rfl⟩
    case skip => obtain ⟨rfl, hv⟩ := hq'; exact ⟨Own.refl _, hv.symm⟩
    case enter f args =>
      obtain ⟨rfl, hc⟩ := hq'
      exact hc.mono fun e w3 ⟨he, hc3⟩ => ⟨_, he, by rw [hc3]; exact Own.refl _, rfl⟩
set_option maxRecDepth 100000 in
set_option maxHeartbeats 8000000 in
theorem ksign_any (w : World) (kb tb : Nat) (n r : Int) (hn0 : 0 ≤ n) (hn : n < 32) (hr : n < r) (id seed : List Int) (h16 : id.length = 16) (h32 : seed.length = 32) (k : Nat) (hk : k = 1 ∨ k = 2 ∨ k = 4 ∨ k = 8) (cs : List Value) (hcs : IsTree id seed k cs) (mv : Value) (msg : List Int) (hm : Old w mv msg) (hmb : IsBytes msg) (hml : msg.length ≤ 90000)
    (H0 : Own w w [(kb, sgC tb n r, 74), (tb, cs, 104)]) (hmk : ∀ k, blk mv = some k → k ≠ kb) (hmt : ∀ k, blk mv = some k → k ≠ tb) {sz : Nat} (hsz : sz = sizeOfL k) :
    Calls Try.prog 14 #[.pointer (some ⟨kb, 0, none⟩), mv] w fun e w' => ∃ g c, e = .returned (.tuple #[.slice (some ⟨g, 0, none⟩) sz c, .int .i64 0]) ∧ sz ≤ c ∧ w.heap.size ≤ g ∧ g < w'.heap.size ∧ BufS w.heap.size (lsigOf id seed k n.toNat msg) w' (.slice (some ⟨g, 0, none⟩) sz c) ∧ Own w w' [(kb, sgC tb (n + 1) r, 74), (tb, fullT id seed k, 104)] := by
  have hq : ((n.toNat : Nat) : Int) = n := by omega
  have hnx : Hid (∀ w', w'.cell? ⟨kb, 1, none⟩ = some (.int .i64 n) → Calls Try.prog 15 #[.pointer (some ⟨kb, 0, none⟩)] w' fun e w'' => e = .returned (.int .i64 n) ∧ Own w' w'' []) := fun w' h => knext_any w' kb n h
  have hsg : Hid (∀ w', Own w' w' [(tb, cs, 104)] → Old w' mv msg → Calls Try.prog 28 #[.pointer (some ⟨tb, 0, none⟩), .int .i64 n, mv] w' fun e w'' => ∃ v, e = .returned v ∧ TupR w'.heap.size sz (lsigOf id seed k n.toNat msg) w'' v ∧ Own w' w'' [(tb, fullT id seed k, 104)]) := fun w' h1 h2 => by
    have hpos : 0 < (lsigOf id seed k n.toNat msg).length := by rw [length_lsigOf]; unfold sizeOfL; omega
    have h := signA_any w' tb id seed h16 h32 k hk cs hcs n.toNat (by omega) mv msg h2 hmb hml h1 hmt hsz
    rw [hq] at h
    exact h.mono fun e w'' ⟨g, c, e1, e2, e3, e4, e5, e6⟩ => ⟨_, e1, ⟨g, c, rfl, e2, e3, e4, e5.toS hpos⟩, e6⟩
  have hkb := H0.lt (.head _)
  have hmo : Hid (∀ w' a b, Own w w' [(kb, a, 74), (tb, b, 104)] → Old w' mv msg) := fun w' a b h => ⟨SlAt.own hm.1 h (fun k hk hm2 => by
    simp only [List.map_cons, List.map_nil, List.mem_cons, List.not_mem_nil, or_false] at hm2
    rcases hm2 with e | e
    · exact hmk k hk e
    · exact hmt k hk e), fun k hk => Nat.lt_of_lt_of_le (hm.2 k hk) h.size⟩
  have hk1 : Hid (∀ w', Own w w' [] → w'.cell? ⟨kb, 1, none⟩ = some (.int .i64 n)) := fun w' h => (H0.call0 h).cell (.head _) 1
  have hk2 : Hid (∀ w', Own w w' [] → w'.cell? ⟨kb, 2, none⟩ = some (.int .i64 r)) := fun w' h => (H0.call0 h).cell (.head _) 2
  have H0' := Lib.hid H0
  obtain ⟨sg, hsg1⟩ : ∃ s, s = lsigOf id seed k n.toNat msg := ⟨_, rfl⟩
  obtain ⟨FT, hFT⟩ : ∃ s, s = fullT id seed k := ⟨_, rfl⟩
  rw [← hsg1, ← hFT] at hsg
  rw [← hsg1, ← hFT]
  clear H0 hq hsg1 hFT h16 h32 hk hcs hm hmb hml hmk hmt hsz
  go_enter Try.func14, Try.ntmps14
  go_wp2_with (go_at_call 15; refine (hnx.out _ (hk1.out _ (Own.refl w))).mono ?_; rintro e w1 ⟨rfl, h⟩; have HW := Lib.hid h; clear h)
  have hk3 : Hid (∀ w', Own w1 w' [] → w'.cell? ⟨kb, 1, none⟩ = some (.int .i64 n)) := fun w' h => hk1.out _ (HW.out.trans h)
  have hk4 : Hid (∀ w', Own w1 w' [] → w'.cell? ⟨kb, 2, none⟩ = some (.int .i64 r)) := fun w' h => hk2.out _ (HW.out.trans h)
  refine region_grow 7 (by kernel_rfl) (by kernel_rfl) (by kernel_rfl) [.val (.pointer (some ⟨kb, 0, none⟩)), .val (.int .i64 n), .val (.pointer (some ⟨kb, 0, none⟩)), .val (.pointer (some ⟨kb, 0, none⟩)), .val (.pointer (some ⟨kb, 2, none⟩)), .val (.int .i64 r), .val (.bool (decide (r ≤ n)))] rfl ?_
  have tok3 : True := trivial
  try go_frame
  repeat (first
    | (clear tok3; refine sp_callN (v := .int .i64 n) (args := #[.pointer (some ⟨kb, 0, none⟩)]) rfl rfl (by simp [Act.eval]) Try.func15 (by kernel_rfl) (by kernel_rfl) (fun w' hw' _ => hnx.out w' (hk3.out w' hw')) ?_; try go_frame; have tok4 : True := trivial)
    | (clear tok4; refine sp_run (v := .int .i64 r) rfl (fun w' hw' _ => rn_cell rfl rfl rfl rfl (hk4.out w' hw')) ?_; try go_frame; have tok5 : True := trivial)
    | (refine sp_val (fun w' hw' hF => ?_) ⟨_, rfl, Nat.le_of_ble_eq_true rfl⟩ ?_
       · go_big_quiet_step (fail)
         exact rfl
       try go_frame))
  refine sp_nil ?_
  intro w2 hw' hF
  have HE := Lib.hid (H0'.out.call0 (HW.out.trans hw'))
  have hB2 := Lib.hid (HW.out.trans hw').size
  clear hw' hF HW hk3 hk4 hk1 hk2 hnx H0'
  simp only [List.drop_succ_cons, List.drop_zero]
  go_wp2_with fail
  obtain ⟨St, hSt⟩ : ∃ St : Nat → World → Prop, St = fun s w' => w2.heap.size ≤ w'.heap.size ∧ (match s with
      | 0 => Own w w' [(kb, sgC tb n r, 74), (tb, cs, 104)]
      | 1 => Own w w' [(kb, sgC tb (n + 1) r, 74), (tb, cs, 104)]
      | _ => Own w w' [(kb, sgC tb (n + 1) r, 74), (tb, FT, 104)]) := ⟨_, rfl⟩
  have hS0 : Hid (∀ w', St 0 w' ↔ w2.heap.size ≤ w'.heap.size ∧ Own w w' [(kb, sgC tb n r, 74), (tb, cs, 104)]) := fun w' => by rw [hSt]; exact Iff.rfl
  have hS1 : Hid (∀ w', St 1 w' ↔ w2.heap.size ≤ w'.heap.size ∧ Own w w' [(kb, sgC tb (n + 1) r, 74), (tb, cs, 104)]) := fun w' => by rw [hSt]; exact Iff.rfl
  have hS2 : Hid (∀ w', St 2 w' ↔ w2.heap.size ≤ w'.heap.size ∧ Own w w' [(kb, sgC tb (n + 1) r, 74), (tb, FT, 104)]) := fun w' => by rw [hSt]; exact Iff.rfl
  have hSc : Hid (∀ w', (∃ s, St s w') → w'.cell? ⟨kb, 0, none⟩ = some (.pointer (some ⟨tb, 0, none⟩))) := fun w' ⟨s, h⟩ => by
    rw [hSt] at h
    match s, h with
    | 0, h => exact h.2.cell (.head _) 0
    | 1, h => exact h.2.cell (.head _) 0
    | s + 2, h => exact h.2.cell (.head _) 0
  have hSm : Hid (∀ s w1 w2, St s w1 → Own w1 w2 [] → St s w2) := fun s w1 w3 h1 h2 => by
    rw [hSt] at h1 ⊢
    match s, h1 with
    | 0, h1 => exact ⟨Nat.le_trans h1.1 h2.size, h1.2.call0 h2⟩
    | 1, h1 => exact ⟨Nat.le_trans h1.1 h2.size, h1.2.call0 h2⟩
    | s + 2, h1 => exact ⟨Nat.le_trans h1.1 h2.size, h1.2.call0 h2⟩
  clear hSt
  refine region_eff 13 (by kernel_rfl) (by kernel_rfl) (by kernel_rfl) [.val (.pointer (some ⟨kb, 0, none⟩)), .val (.pointer (some ⟨kb, 0, none⟩)), .val (.pointer (some ⟨kb, 0, none⟩)), .val (.pointer (some ⟨tb, 0, none⟩)), .val (.pointer (some ⟨kb, 0, none⟩)), .val (.pointer (some ⟨kb, 0, none⟩)), .val (.pointer (some ⟨kb, 1, none⟩)), .eff (fun w3 w4 => ∃ cs, Own w3 w4 [(kb, cs, 74)]) (fun _ v => v = .int .i64 (n + 1)), .rel (fun _ v => v = .int .i64 n), .val mv, .eff (fun _ _ => True) (TupR w2.heap.size sz sg), .rel (SlR w2.heap.size sz sg), .val (.int .i64 0)] rfl ?_ (by kernel_rfl) St ((hS0.out _).2 ⟨Nat.le_refl _, HE.out⟩) hSm.out ?_
  · simp only [eAll, eRow, Se.pres, or_true, true_and, and_true]
    exact ⟨⟨Or.inl trivial, Or.inr (Or.inr fun _ _ _ _ h => h), Or.inr (Or.inl (by kernel_rfl)), Or.inr (Or.inr (SlR.pres _ _ _ _ _ (Nat.lt_of_lt_of_le hkb hB2.out)))⟩, Or.inr (Or.inr fun _ _ _ _ h => h), Or.inr (Or.inr fun _ _ _ _ h => h), Or.inl trivial, Or.inr (Or.inl (by kernel_rfl))⟩
  have tok3 : True := trivial
  try go_frame
  repeat (first
    | (clear tok3; refine se_run (v := .pointer (some ⟨tb, 0, none⟩)) rfl (fun w' hw' _ => rn_cell rfl rfl rfl rfl (hSc.out w' hw')) ?_; try go_frame; have tok4 : True := trivial)
    | (clear tok4; refine se_callE (args := #[.pointer (some ⟨kb, 1, none⟩), .int .i64 1]) (fun _ _ _ _ h => h) rfl rfl rfl (by simp [Act.eval]) Try.func41 (by kernel_rfl) (by kernel_rfl) (fun w' hS hF => ?_) ?_
       · obtain ⟨q1, q2⟩ := (hS0.out w').1 hS
         have q3 := q2.size
         refine (iadd_any (i := 1) (w0 := w') n 1 (q2.sub1 (.head _)) rfl (by unfold wrap64; omega) (L' := [(kb, sgC tb (n + 1) r, 74)]) .head).mono ?_
         rintro e w'' ⟨rfl, q4⟩
         exact ⟨_, rfl, rfl, ⟨_, q4⟩, (hS1.out w'').2 ⟨Nat.le_trans q1 q4.size, Own.next (L := [_]) (M := [_]) q2 q4 rfl⟩⟩
       intro v28; try go_frame; have tok5 : True := trivial)
    | (clear tok5; refine se_rel (fun _ _ _ _ h => h) rfl (fun w' hw' hF => ?_) ?_
       · have e28 : v28 = .int .i64 (n + 1) := hF.2 _ rfl (List.mem_of_elem_eq_true (by kernel_rfl))
         subst e28
         exact yields_quiet (ops := #[]) rfl (by go_big_quiet_step (fail); exact rfl) ⟨_, rfl, Nat.le_of_ble_eq_true rfl⟩
       intro v29; try go_frame; have tok6 : True := trivial)
    | (clear tok6; refine se_callE (args := #[.pointer (some ⟨tb, 0, none⟩), v29, mv]) (TupR.mono _ _ _) rfl rfl rfl (by simp [Act.eval]) Try.func28 (by kernel_rfl) (by kernel_rfl) (fun w' hS hF => ?_) ?_
       · have e29 : v29 = .int .i64 n := hF.2 _ rfl (List.mem_of_elem_eq_true (by kernel_rfl))
         subst e29
         obtain ⟨q1, q2⟩ := (hS1.out w').1 hS
         refine (hsg.out w' (q2.sub1 (.tail _ (.head _))) (hmo.out _ _ _ q2)).mono ?_
         rintro e w'' ⟨v, rfl, ⟨g, c, e1, e2, e3, e4, e5⟩, q3⟩
         exact ⟨v, rfl, ⟨g, c, e1, e2, Nat.le_trans q1 e3, e4, e5.le q1⟩, trivial, (hS2.out w'').2 ⟨Nat.le_trans q1 q3.size, Own.callAt (L1 := [_]) q2 q3⟩⟩
       intro v31; try go_frame; have tok7 : True := trivial)
    | (clear tok7; refine se_rel (SlR.mono _ _ _) rfl (fun w' hw' hF => ?_) ?_
       · obtain ⟨g, c, e1, e2⟩ := hF.2 _ rfl (List.mem_of_elem_eq_true (by kernel_rfl))
         exact yieldsTo_val' (rn_extract rfl e1 rfl) ⟨Own.refl _, g, c, rfl, e2⟩
       intro v32; try go_frame; have tok8 : True := trivial)
    | (clear tok8; refine se_run (v := .int .i64 0) rfl (fun w' hw' hF => ?_) ?_
       · obtain ⟨g, c, e1, e2⟩ := hF.1.2 _ rfl (List.mem_of_elem_eq_true (by kernel_rfl))
         exact rn_extract rfl e1 rfl
       try go_frame)
    | (refine se_val (fun w' hw' hF => ?_) ⟨_, rfl, Nat.le_of_ble_eq_true rfl⟩ ?_
       · go_big_quiet_step (fail)
         exact rfl
       try go_frame))
  refine se_nil ?_
  intro w5 hS hF
  have hR := hF.2 _ rfl trivial
  obtain ⟨g, c, e32, r1, r2, r3, r4⟩ := hR
  subst e32
  have HE2 := Lib.hid ((hS2.out w5).1 hS).2
  have G := Lib.hid (And.intro r1 (And.intro (Nat.le_trans hB2.out r2) (And.intro r3 (r4.le hB2.out))))
  clear hS hF r1 r2 r3 r4 HE hS0 hS1 hS2 hSc hSm hsg hmo
  simp only [List.drop_succ_cons, List.drop_zero]
  go_wp2_with fail
  go_ret2
  exact ⟨_, _, rfl, G.out.1, G.out.2.1, G.out.2.2.1, G.out.2.2.2, HE2.out⟩

end Go.Proofs.Ytfihlmnbonnekaa
