/- chirographlaw3.OtsForms: the walk. -/
import Derived.Test.YtokichlmgepdpaaOAsks
namespace Go.Proofs.Ytokichlmgepdpaa
open Go.RowKit

/-- a digest's variable that is not older than B -/
def CellH (B : Nat) : World → Value → Prop := fun w v => ∃ g cs, v = .pointer (some ⟨g, 0, none⟩) ∧ B ≤ g ∧ cs.length = 32 ∧ w.heap[g]? = some (.cells (List.toArray cs) 23 (0, 0))
/-- a step that turns one -/
def HsE (B : Nat) : World → World → Prop := fun w1 w2 => ∃ g cs cs', B ≤ g ∧ w1.heap[g]? = some (.cells (List.toArray cs) 23 (0, 0)) ∧ cs'.length = 32 ∧ Own w1 w2 [(g, cs', 23)]
theorem CellH.mono {B : Nat} : Mono (CellH B) := fun w1 w2 v h ⟨g, c, h1, h2, h3, h4⟩ => ⟨g, c, h1, h2, h3, by rw [h.keep g (Array.getElem?_eq_some_iff.1 h4).1 (by simp)]; exact h4⟩
theorem CellH.pres {B : Nat} : ∀ w1 w2 v, HsE B w1 w2 → CellH B w1 v → CellH B w2 v := fun w1 w2 v ⟨g, cs, cs', _, _, a4, a3⟩ ⟨b, c, h1, h2, h3, h4⟩ => by
  by_cases e : b = g
  · subst e
    exact ⟨b, cs', h1, h2, a4, a3.here _ _ _ (.head _)⟩
  · exact ⟨b, c, h1, h2, h3, by rw [a3.keep b (Array.getElem?_eq_some_iff.1 h4).1 (by simpa using e)]; exact h4⟩
theorem cellH_alloc {P : Program} {o : Oper} {a : Act} {w1 : World} {B : Nat} (ho : o.op = .alloc 23) (hz : ((P.info? 23).bind (·.zero)).map (fun z => z.cells.toList) = some (u8s (List.replicate 32 0))) (hw : B ≤ w1.heap.size) :
    YieldsTo P o a w1 (fun v w' => Own w1 w' [] ∧ CellH B w' v) := by
  obtain ⟨n, w2, hr, hn, ho1⟩ := rn_alloc (P := P) (o := o) (a := a) (Own.refl w1) ho hz
  exact yieldsTo_val' hr ⟨ho1.end0 (by simpa using hn), n, _, rfl, Nat.le_trans hw hn, by rw [length_ints]; rfl, ho1.here _ _ _ (.head _)⟩

theorem signQ_any (w : World) (id seed : List Int) (h16 : id.length = 16) (h32 : seed.length = 32) (q k : Nat) (hq : q < 32) (hk : k = 1 ∨ k = 2 ∨ k = 4 ∨ k = 8) (mv : Value) (msg : List Int) (hm : Old w mv msg) (hmb : IsBytes msg) (hml : msg.length ≤ 90000) {n : Nat} (hn : n = 36 + 32 * chN k) :
    Calls Try.prog 16 #[.agg (u8s (id ++ seed)).toArray, .int .i64 q, .int .i64 k, mv] w fun e w' => ∃ b off c, e = .returned (.tuple #[.slice (some ⟨b, off, none⟩) n c, .int .i64 0]) ∧ n ≤ c ∧ Old w' (.slice (some ⟨b, off, none⟩) n c) (sigOf id seed q k msg) ∧ Own w w' [] :=
  (signP_any w id seed h16 h32 q k hq hk mv msg hm hmb hml hn).mono fun e w' ⟨p, c, h1, h2, h3⟩ => by
    have hl := length_sigOf id seed q k msg
    obtain ⟨b, off, c', h4, h5⟩ := h2.at0 (by omega)
    rw [hl, ← hn] at h4 h5
    cases h4
    exact ⟨b, off, c, h1, h5, h2, h3⟩


set_option maxRecDepth 100000 in
set_option maxHeartbeats 8000000 in
theorem otsForms_1e (w : World) (id seed : List Int) (h16 : id.length = 16) (h32 : seed.length = 32) (q0 x0 : Int) (hwd0 : ∀ w, Calls Try.prog 20 #[.int .i64 x0] w fun e w' => e = .returned (.int .i64 1) ∧ Own w w' [])
    (pm ps : Option Addr) (n m cm cs : Nat) (msg oth : List Int) (hO : Old w (.slice pm n cm) msg) (hmb : IsBytes msg) (hn : n = msg.length) (hn5 : n ≤ 50) (hS : Old w (.slice ps m cs) oth) (hgb : IsBytes oth) (hmn : m = oth.length) (hm5 : m ≤ 50) (heq : msg = oth) :
    Calls Try.prog 9 #[.agg (u8s (id ++ seed)).toArray, .int .i64 q0, .int .i64 x0, .slice pm n cm, .slice ps m cs] w fun e w' => e = .returned (.bool true) ∧ Own w w' [] := by
  have H := Own.refl w
  have hsz := Lib.hid (size_idL h16)
  have hsz48 := Lib.hid (size_secretL h16 h32)
  have hto := Lib.hid otold_any
  have hOw := Lib.hid hO
  have hSw := Lib.hid hS
  have hwd := Lib.hid hwd0
  obtain ⟨q, hqe, hq⟩ := rem_wrap q0 32 (by omega) (by omega)
  have hq32 : q < 32 := by omega
  have hch : Hid (∀ w', Calls Try.prog 15 #[.int .i64 1] w' fun e w'' => e = .returned (.int .i64 265) ∧ Own w' w'' []) := fun w' => chains_any w' 1
  have hsig : Hid (∀ w' v, Old w' v msg → Calls Try.prog 16 #[.agg (u8s (id ++ seed)).toArray, .int .i64 q, .int .i64 1, v] w' fun e w'' => ∃ b off c, e = .returned (.tuple #[.slice (some ⟨b, off, none⟩) 8516 c, .int .i64 0]) ∧ 8516 ≤ c ∧ Old w'' (.slice (some ⟨b, off, none⟩) 8516 c) (sigOf id seed q 1 msg) ∧ Own w' w'' []) := fun w' v h => signQ_any w' id seed h16 h32 q 1 hq32 (by omega) v msg h hmb (by omega) rfl
  have hsig2 : Hid (∀ w' v, Old w' v oth → Calls Try.prog 16 #[.agg (u8s (id ++ seed)).toArray, .int .i64 q, .int .i64 1, v] w' fun e w'' => ∃ b off c, e = .returned (.tuple #[.slice (some ⟨b, off, none⟩) 8516 c, .int .i64 0]) ∧ 8516 ≤ c ∧ Old w'' (.slice (some ⟨b, off, none⟩) 8516 c) (sigOf id seed q 1 oth) ∧ Own w' w'' []) := fun w' v h => signQ_any w' id seed h16 h32 q 1 hq32 (by omega) v oth h hgb (by omega) rfl
  obtain ⟨sg, hsg⟩ : ∃ s, s = sigOf id seed q 1 msg := ⟨_, rfl⟩
  obtain ⟨so, hso⟩ : ∃ s, s = sigOf id seed q 1 oth := ⟨_, rfl⟩
  have hsgl : Hid (sg.length = 8516) := by show _ = _; rw [hsg, length_sigOf]; rfl
  have hsol : Hid (so.length = 8516) := by show _ = _; rw [hso, length_sigOf]; rfl
  have hsgb : Hid (IsBytes sg) := by rw [hsg]; exact isBytes_sigOf _ _ _ _ _
  have hsob : Hid (IsBytes so) := by rw [hso]; exact isBytes_sigOf _ _ _ _ _
  have hg4 : Hid (sg.take 4 = [0, 0, 0, 1]) := by show _ = _; rw [hsg, take4_sigOf]; kernel_rfl
  have hg36 : Hid (sg.take 36 = so.take 36) := by show _ = _; rw [hsg, hso, take36_sigOf, take36_sigOf]
  have hcan : Hid (∀ w' v u, Old w' v msg → Old w' u (sg.take 8515) → Calls Try.prog 18 #[.agg (u8s id).toArray, .int .i64 q, .int .i64 1, v, u] w' fun e w'' => e = .returned (.tuple #[.agg (u8s (List.replicate 32 0)).toArray, .int .i64 3]) ∧ Own w' w'' []) := fun w' v u h1 h2 => cand_len w' id q 1 hq32 (by omega) v u _ h2 (by rw [List.length_take, hsgl.out]; decide) (by rw [List.length_take, hsgl.out]; decide)
  have hs4 : Hid (∀ w' v u, Old w' v (sg.take 4) → BytesAt w' u [0, 0, 0, 1] → Calls Try.prog 19 #[v, u] w' fun e w'' => e = .returned (.bool true) ∧ Own w' w'' []) := fun w' v u h1 h2 => by
    have h := same_any w' v u _ _ h1.1 h2 (isBytes_take hsgb.out 4) (by rw [← hg4.out]; exact isBytes_take hsgb.out 4)
    rw [decide_eq_true hg4.out] at h
    exact h
  have hs36 : Hid (∀ w' v u, Old w' v (sg.take 36) → Old w' u (so.take 36) → Calls Try.prog 19 #[v, u] w' fun e w'' => e = .returned (.bool true) ∧ Own w' w'' []) := fun w' v u h1 h2 => by
    have h := same_any w' v u _ _ h1.1 h2.1 (isBytes_take hsgb.out 36) (isBytes_take hsob.out 36)
    rw [decide_eq_true hg36.out] at h
    exact h
  have hsmo : Hid (∀ w' v u, Old w' v msg → Old w' u oth → Calls Try.prog 19 #[v, u] w' fun e w'' => e = .returned (.bool true) ∧ Own w' w'' []) := fun w' v u h1 h2 => by
    have h := same_any w' v u _ _ h1.1 h2.1 hmb hgb
    rw [decide_eq_true heq] at h
    exact h
  have hsgo : Hid (∀ w' v u, Old w' v sg → Old w' u so → Calls Try.prog 19 #[v, u] w' fun e w'' => e = .returned (.bool true) ∧ Own w' w'' []) := fun w' v u h1 h2 => by
    have h := same_any w' v u _ _ h1.1 h2.1 hsgb.out hsob.out
    rw [decide_eq_true (by rw [hsg, hso, heq])] at h
    exact h
  simp only [← hsg, ← hso] at hsig hsig2
  have eZ1 : ∀ w, (Op.equalIn 10000 23 (.agg (u8s [0, 0, 0, 0, 0, 0, 0, 0, 0, 0, 0, 0, 0, 0, 0, 0, 0, 0, 0, 0, 0, 0, 0, 0, 0, 0, 0, 0, 0, 0, 0, 0]).toArray) (.agg (u8s [0, 0, 0, 0, 0, 0, 0, 0, 0, 0, 0, 0, 0, 0, 0, 0, 0, 0, 0, 0, 0, 0, 0, 0, 0, 0, 0, 0, 0, 0, 0, 0]).toArray)).run Try.prog w = .ok true w := fun w => by rw [eqHash w _ _ rfl rfl]; simp
  have eZ2 : ∀ w, (Op.equalIn 10000 23 (.agg (u8s [0, 0, 0, 0, 0, 0, 0, 0, 0, 0, 0, 0, 0, 0, 0, 0, 0, 0, 0, 0, 0, 0, 0, 0, 0, 0, 0, 0, 0, 0, 0, 0]).toArray) (.agg #[.int .u8 0, .int .u8 0, .int .u8 0, .int .u8 0, .int .u8 0, .int .u8 0, .int .u8 0, .int .u8 0, .int .u8 0, .int .u8 0, .int .u8 0, .int .u8 0, .int .u8 0, .int .u8 0, .int .u8 0, .int .u8 0, .int .u8 0, .int .u8 0, .int .u8 0, .int .u8 0, .int .u8 0, .int .u8 0, .int .u8 0, .int .u8 0, .int .u8 0, .int .u8 0, .int .u8 0, .int .u8 0, .int .u8 0, .int .u8 0, .int .u8 0, .int .u8 0])).run Try.prog w = .ok true w := fun w => eZ1 w
  clear hO hmb hn hS hgb hmn heq h16 h32 hwd0 hsg hso hq
  go_enter Try.func9, Try.ntmps9
  have tok1 : True := trivial
  go_wp2_with (first
    | (clear tok1; refine st_new rfl (rn_box (cs := u8s (id ++ seed)) H rfl rfl rfl) ?_; clear H; intro b5 w1 hb5 H; have tok2 : True := trivial)
    | (clear tok2; go_at_call 20; refine (hwd.out _).mono ?_; rintro e w2 ⟨rfl, h3⟩; have H2 := H.call0 h3; clear H h3; have H := H2; clear H2; have tok3 : True := trivial)
    | (clear tok3; refine st_val rfl (rn_loadAll (cs := u8s (id ++ seed)) H rfl rfl (.head _) rfl rfl hsz48.out) ?_; have tok4 : True := trivial)
    | (clear tok4; go_at_call 16; refine (hsig.out _ _ (hOw.out.mv H (by simp; omega))).mono ?_; rintro e w6 ⟨pa, oa, ca, rfl, gca, hA, h3⟩; have H2 := H.call0 h3; have A6 := Lib.hid hA; clear H h3 hA; have H := H2; clear H2; have tok5 : True := trivial)
    | (clear tok5; refine st_val rfl (rn_loadAll (cs := u8s (id ++ seed)) H rfl rfl (.head _) rfl rfl hsz48.out) ?_; have tok6 : True := trivial)
    | (clear tok6; go_at_call 16; refine (hsig2.out _ _ (hSw.out.mv H (by simp; omega))).mono ?_; rintro e w7 ⟨pb, ob, cb, rfl, gcb, hB, h3⟩; have A7 := Lib.hid (A6.out.mv h3 (by simp)); have B7 := Lib.hid hB; have H2 := H.call0 h3; have HW := Lib.hid H2; have M7 := Lib.hid (hOw.out.mv H2 (by simp; omega)); have S7 := Lib.hid (hSw.out.mv H2 (by simp; omega));
        have c5i := Lib.hid (fun (w' : World) (L : List Ent) (h : Own w7 w' L) (hn : ∀ k ∈ L.map (·.1), w7.heap.size ≤ k) => show ∀ j v, (u8s id)[j]? = some v → w'.cell? ⟨b5, 0 + j, none⟩ = some v from fun j v hj => h.old (HW.out.rowL (.head _) j v hj) (fun hm => by have := hn _ hm; have := HW.out.lt (.head _); omega));
        clear H H2 h3 hB A6; have H := Own.refl w7; have tok7 : True := trivial)
    | (clear tok7; go_at_call 15; refine (hch.out _).mono ?_; rintro e w8 ⟨rfl, h3⟩; have H2 := H.call0 h3; clear H h3; have H := H2; clear H2; have tok8 : True := trivial)
    | (clear tok8; refine st_new rfl (rn_buildSlice (e := 3) (cs := i64s [0, 1, 2, 0, 3]) H rfl (fun w' => by kernel_rfl)) ?_; clear H; intro b74 w9 hb74 H; have tok9 : True := trivial)
    | (clear tok9; refine st_val rfl (rn_load H rfl rfl (.head _) rfl rfl rfl) ?_; have tok10 : True := trivial)
    | (clear tok10; refine st_new rfl (rn_buildSlice (e := 5) (cs := u8s [0, 0, 0, 1]) H rfl (fun w' => by kernel_rfl)) ?_; clear H; intro b18 w10 hb18 H; have tok11 : True := trivial))
  have H10 := Lib.hid H
  have hmv : Hid (∀ w' L, Own w10 w' L → (∀ k ∈ L.map (·.1), w10.heap.size ≤ k) → ∃ L', Own w7 w' L' ∧ (∀ k ∈ L'.map (·.1), w7.heap.size ≤ k)) := fun w' L h hn => ⟨[], Own.transNew H10.out h (by simp; omega) (fun k hk => Nat.le_trans H10.out.size (hn k hk)), by simp⟩
  obtain ⟨B, hB⟩ : ∃ B, B = w10.heap.size := ⟨_, rfl⟩
  obtain ⟨St, hSt⟩ : ∃ St : Nat → Act → World → Prop, St = fun s a' w' => match s with
      | 0 => Own w10 w' []
      | _ => ∃ g, a'.tmps.getD 19 undef = .pointer (some ⟨g, 0, none⟩) ∧ B ≤ g ∧ Own w10 w' [(g, u8s (List.replicate 32 0), 23)] := ⟨_, rfl⟩
  have hSb : Hid (∀ w', (∃ s a', St s a' w') → ∃ L, Own w10 w' L ∧ ∀ k ∈ L.map (·.1), B ≤ k) := fun w' ⟨s, a', h⟩ => by
    rw [hSt] at h
    cases s with
    | zero => exact ⟨_, h, by simp⟩
    | succ s => obtain ⟨g, _, h2, h3⟩ := h; exact ⟨_, h3, by simpa using h2⟩
  have hS0 : Hid (∀ a' w', St 0 a' w' ↔ Own w10 w' []) := fun a' w' => by rw [hSt]; exact Iff.rfl
  have hS1 : Hid (∀ a' w', St 1 a' w' ↔ ∃ g, a'.tmps.getD 19 undef = .pointer (some ⟨g, 0, none⟩) ∧ B ≤ g ∧ Own w10 w' [(g, u8s (List.replicate 32 0), 23)]) := fun a' w' => by rw [hSt]; exact Iff.rfl
  have hSm : Hid (∀ s a' w1 w2, St s a' w1 → Own w1 w2 [] → St s a' w2) := fun s a' w1 w2 h1 h2 => by
    rw [hSt] at h1 ⊢
    cases s with
    | zero => exact Own.call0 h1 h2
    | succ s => obtain ⟨g, h3, h4, h5⟩ := h1; exact ⟨g, h3, h4, h5.call0 h2⟩
  have hSp : Hid (∀ s a' w' d v, (d ∉ [19] ∨ s ≤ 0) → St s a' w' → St s (a'.put (some d) v) w') := fun s a' w' d v hd h => by
    rw [hSt] at h ⊢
    cases s with
    | zero => exact h
    | succ s =>
      obtain ⟨g, h3, h4⟩ := h
      refine ⟨g, ?_, h4⟩
      have hne : d ≠ 19 := by
        rcases hd with hd | hd
        · simpa using hd
        · omega
      rw [← h3]
      show (a'.tmps.setIfInBounds d v).getD 19 undef = _
      simp [hne]
  clear hSt
  have hB' := Lib.hid hB
  clear hB H
  refine region_effF 15 (by kernel_rfl) (by kernel_rfl) (by kernel_rfl) [.val (.pointer (some ⟨b5, 0, none⟩)), .val (.agg (u8s id).toArray), .val (.int .i64 q), .val (.int .i64 1), .val (.slice pm n cm), .val (.slice (some ⟨pa, oa, none⟩) 8516 ca), .val (.int .i64 8516), .val (.int .i64 8515), .val (.slice (some ⟨pa, oa + 0, none⟩) 8515 (ca - 0)), .val (.tuple #[.agg (u8s (List.replicate 32 0)).toArray, .int .i64 3]), .val (.tuple #[.agg (u8s (List.replicate 32 0)).toArray, .int .i64 3]), .val (.agg (u8s (List.replicate 32 0)).toArray), .val (.int .i64 3), .rel (CellH B), .eff (HsE B) (fun _ _ => True)] rfl ?_ (by kernel_rfl) St ((hS0.out _ _).2 (Own.refl _)) hSm.out [19] 14 (fun s a' w' d v h1 h2 => hSp.out s a' w' d v h1 h2) (by kernel_rfl) ?_
  · simp only [eAll, eRow, Se.pres, or_true, true_and, and_true, implies_true]
    exact Or.inr (Or.inr CellH.pres)
  have tok3 : True := trivial
  try go_frame
  repeat (first
    | (clear tok3; refine sf_run (v := .agg (u8s id).toArray) rfl (fun w' hw' _ => rn_cells rfl rfl rfl rfl hsz.out (by obtain ⟨L, h1, h2⟩ := hSb.out w' hw'; obtain ⟨L', h3, h4⟩ := hmv.out _ _ h1 (fun k hk => by rw [← hB'.out]; exact h2 k hk); exact c5i.out _ _ h3 h4)) ?_; try go_frame; have tok4 : True := trivial)
    | (clear tok4; refine sf_run (v := .slice (some ⟨pa, oa + 0, none⟩) 8515 (ca - 0)) rfl (fun w' hw' _ => rn_part (l := 0) (h := 8515) rfl rfl size_u8 rfl (by exact .no _) (by exact .yes rfl) (by omega) (by omega) gca rfl rfl) ?_; try go_frame; have tok5 : True := trivial)
    | (clear tok5; refine sf_callN (v := .tuple #[.agg (u8s (List.replicate 32 0)).toArray, .int .i64 3]) (args := #[.agg (u8s id).toArray, .int .i64 q, .int .i64 1, .slice pm n cm, .slice (some ⟨pa, oa + 0, none⟩) 8515 (ca - 0)]) rfl rfl (by simp [Act.eval]) Try.func18 (by kernel_rfl) (by kernel_rfl) (fun w' hw' _ => by obtain ⟨L, h1, h2⟩ := hSb.out w' hw'; obtain ⟨L', h3, h4⟩ := hmv.out _ _ h1 (fun k hk => by rw [← hB'.out]; exact h2 k hk); exact hcan.out w' _ _ (M7.out.mv h3 h4) (by have h5 := (A7.out.mv h3 h4).part (l := 0) (m := 8515) (d := ca - 0) hsgl.out.symm (by omega) (by omega) (by omega); rw [List.drop_zero] at h5; exact h5)) ?_; try go_frame; have tok6 : True := trivial)
    | (clear tok6; refine sf_rel CellH.mono rfl (fun w' hw' hF => cellH_alloc rfl info_hash (by obtain ⟨L, h1, h2⟩ := hSb.out w' hw'; rw [hB'.out]; exact h1.size)) ?_
       intro v19; try go_frame; have tok7 : True := trivial)
    | (clear tok7; refine sf_store rfl rfl (fun a' w' hag hS hF => ?_) ?_
       · have q2 := (hS0.out a' w').1 hS
         obtain ⟨g, c0, e13, q5, q6, q7⟩ := hF.2 _ rfl (List.mem_of_elem_eq_true (by kernel_rfl))
         subst e13
         have hone : Own w' w' [(g, c0, 23)] := Own.one q7
         have hag13 : a'.tmps.getD 19 undef = .pointer (some ⟨g, 0, none⟩) := hag 19 (List.mem_of_elem_eq_true (by kernel_rfl))
         exact (rn_storeAll (vs := u8s (List.replicate 32 0)) hone rfl rfl rfl (by kernel_rfl) .head (by rw [q6]; kernel_rfl) (oneCell_ints _ _)).imp fun w'' h => ⟨h.1, ⟨g, c0, _, q5, q7, by kernel_rfl, h.2⟩, (hS1.out a' w'').2 ⟨g, hag13, q5, Own.adopt (q2.young h.2 (by rw [← hB'.out]; exact q5) (by simp)) (h.2.here _ _ _ (.head _)) (by simp)⟩⟩
       try go_frame)
    | (refine sf_val (fun w' hw' hF => ?_) ⟨_, rfl, Nat.le_of_ble_eq_true rfl⟩ ?_
       · go_big_quiet_step (fail)
         exact rfl
       try go_frame))
  refine sf_nil ?_
  intro w11 hS hF
  obtain ⟨g, e13, q5, q7⟩ := (hS1.out _ _).1 hS
  have e13' : v19 = .pointer (some ⟨g, 0, none⟩) := e13
  subst e13'
  have H11 := Lib.hid q7
  have q5' := Lib.hid (hB'.out ▸ q5)
  clear hS hF hSb hS0 hS1 hSm hSp St e13 q5 q7 hcan hB'
  simp only [List.drop_succ_cons, List.drop_zero]
  go_wp2_with fail
  have hmw : Hid (∀ w', Own w11 w' [] → ∃ L', Own w7 w' L' ∧ (∀ k ∈ L'.map (·.1), w7.heap.size ≤ k)) := fun w' h => hmv.out w' _ (H11.out.call0 h) (by have := q5'.out; simpa using this)
  have hcd : Hid (∀ w', Own w11 w' [] → BytesAt w' (.slice (some ⟨b18, 0, none⟩) 4 4) [0, 0, 0, 1]) := fun w' h => by
    have h1 : Own w10 w' [(g, u8s (List.replicate 32 0), 23)] := H11.out.call0 h
    have h2 : BytesAt w10 (.slice (some ⟨b18, 0, none⟩) 4 4) [0, 0, 0, 1] := Own.litM H10.out (.head _) rfl
    exact SlAt.own h2 h1 (fun k hk hm => by obtain rfl := (blk_some hk).1; have := H10.out.lt (.head _); have := q5'.out; simp at hm; omega)
  refine region_grow 34 (by kernel_rfl) (by kernel_rfl) (by kernel_rfl) [.val (.bool true), .val (.bool true), .val (.slice (some ⟨pa, oa, none⟩) 8516 ca), .val (.slice (some ⟨pa, oa + 0, none⟩) 4 (ca - 0)), .val (.slice (some ⟨b18, 0, none⟩) 4 4), .val (.bool true), .val (.bool true), .val (.bool true), .val (.slice (some ⟨pa, oa, none⟩) 8516 ca), .val (.slice (some ⟨pa, oa + 0, none⟩) 36 (ca - 0)), .val (.slice (some ⟨pb, ob, none⟩) 8516 cb), .val (.slice (some ⟨pb, ob + 0, none⟩) 36 (cb - 0)), .val (.bool true), .val (.bool true), .val (.bool true), .val (.slice pm n cm), .val (.slice ps m cs), .val (.bool true), .val (.bool false), .val (.bool false), .val (.slice (some ⟨pa, oa, none⟩) 8516 ca), .val (.slice (some ⟨pb, ob, none⟩) 8516 cb), .val (.bool true), .val (.bool true), .val (.bool true), .val (.bool true), .val (.int .i64 3), .val (.bool true), .val (.bool true), .val (.bool true), .val (.agg (u8s (List.replicate 32 0)).toArray), .val (.agg (u8s (List.replicate 32 0)).toArray), .val (.bool true), .val (.bool true)] rfl ?_
  have tok3 : True := trivial
  try go_frame
  repeat (first
    | (clear tok3; refine sp_callN (v := .bool true) (args := #[]) rfl rfl (by simp) Try.func14 (by kernel_rfl) (by kernel_rfl) (fun w' _ _ => hto.out w') ?_; try go_frame; have tok4 : True := trivial)
    | (clear tok4; refine sp_run (v := .slice (some ⟨pa, oa + 0, none⟩) 4 (ca - 0)) rfl (fun w' hw' _ => rn_part (l := 0) (h := 4) rfl rfl size_u8 rfl (by exact .no _) (by exact .yes rfl) (by omega) (by omega) gca rfl rfl) ?_; try go_frame; have tok5 : True := trivial)
    | (clear tok5; refine sp_callN (v := .bool true) (args := #[.slice (some ⟨pa, oa + 0, none⟩) 4 (ca - 0), .slice (some ⟨b18, 0, none⟩) 4 4]) rfl rfl (by simp [Act.eval]) Try.func19 (by kernel_rfl) (by kernel_rfl) (fun w' hw' _ => by obtain ⟨L', h3, h4⟩ := hmw.out w' hw'; exact hs4.out w' _ _ (by have h5 := (A7.out.mv h3 h4).part (l := 0) (m := 4) (d := ca - 0) hsgl.out.symm (by omega) (by omega) (by omega); rw [List.drop_zero] at h5; exact h5) (hcd.out w' hw')) ?_; try go_frame; have tok6 : True := trivial)
    | (clear tok6; refine sp_run (v := .slice (some ⟨pa, oa + 0, none⟩) 36 (ca - 0)) rfl (fun w' hw' _ => rn_part (l := 0) (h := 36) rfl rfl size_u8 rfl (by exact .no _) (by exact .yes rfl) (by omega) (by omega) gca rfl rfl) ?_; try go_frame; have tok7 : True := trivial)
    | (clear tok7; refine sp_run (v := .slice (some ⟨pb, ob + 0, none⟩) 36 (cb - 0)) rfl (fun w' hw' _ => rn_part (l := 0) (h := 36) rfl rfl size_u8 rfl (by exact .no _) (by exact .yes rfl) (by omega) (by omega) gcb rfl rfl) ?_; try go_frame; have tok8 : True := trivial)
    | (clear tok8; refine sp_callN (v := .bool true) (args := #[.slice (some ⟨pa, oa + 0, none⟩) 36 (ca - 0), .slice (some ⟨pb, ob + 0, none⟩) 36 (cb - 0)]) rfl rfl (by simp [Act.eval]) Try.func19 (by kernel_rfl) (by kernel_rfl) (fun w' hw' _ => by obtain ⟨L', h3, h4⟩ := hmw.out w' hw'; exact hs36.out w' _ _ (by have h5 := (A7.out.mv h3 h4).part (l := 0) (m := 36) (d := ca - 0) hsgl.out.symm (by omega) (by omega) (by omega); rw [List.drop_zero] at h5; exact h5) (by have h5 := (B7.out.mv h3 h4).part (l := 0) (m := 36) (d := cb - 0) hsol.out.symm (by omega) (by omega) (by omega); rw [List.drop_zero] at h5; exact h5)) ?_; try go_frame; have tok9 : True := trivial)
    | (clear tok9; refine sp_callN (v := .bool true) (args := #[.slice pm n cm, .slice ps m cs]) rfl rfl (by simp [Act.eval]) Try.func19 (by kernel_rfl) (by kernel_rfl) (fun w' hw' _ => by obtain ⟨L', h3, h4⟩ := hmw.out w' hw'; exact hsmo.out w' _ _ (M7.out.mv h3 h4) (S7.out.mv h3 h4)) ?_; try go_frame; have tok10 : True := trivial)
    | (clear tok10; refine sp_callN (v := .bool true) (args := #[.slice (some ⟨pa, oa, none⟩) 8516 ca, .slice (some ⟨pb, ob, none⟩) 8516 cb]) rfl rfl (by simp [Act.eval]) Try.func19 (by kernel_rfl) (by kernel_rfl) (fun w' hw' _ => by obtain ⟨L', h3, h4⟩ := hmw.out w' hw'; exact hsgo.out w' _ _ (A7.out.mv h3 h4) (B7.out.mv h3 h4)) ?_; try go_frame; have tok11 : True := trivial)
    | (clear tok11; refine sp_run (v := .agg (u8s (List.replicate 32 0)).toArray) rfl (fun w' hw' _ => rn_cells rfl rfl rfl rfl (by kernel_rfl) (fun j v hj => by rw [(H11.out.call0 hw').cell (.head _), Nat.zero_add]; exact hj)) ?_; try go_frame; have tok12 : True := trivial)
    | (refine sp_val (fun w' hw' hF => ?_) ⟨_, rfl, Nat.le_of_ble_eq_true rfl⟩ ?_
       · go_big_quiet_step (fail)
         exact rfl
       try go_frame))
  refine sp_nil ?_
  intro w12 hw' hF
  have h1 : Hid (Own w w12 []) := (HW.out.end0 (by simp; omega)).trans ((Own.transNew H10.out (H11.out.call0 hw') (by simp; omega) (by have := q5'.out; have := H10.out.size; simp; omega)))
  clear hw' hF
  simp only [List.drop_succ_cons, List.drop_zero]
  go_wp2_with fail
  go_ret
  exact ⟨rfl, h1.out⟩

set_option maxRecDepth 100000 in
set_option maxHeartbeats 8000000 in
theorem otsForms_1n (w : World) (id seed : List Int) (h16 : id.length = 16) (h32 : seed.length = 32) (q0 x0 : Int) (hwd0 : ∀ w, Calls Try.prog 20 #[.int .i64 x0] w fun e w' => e = .returned (.int .i64 1) ∧ Own w w' [])
    (pm ps : Option Addr) (n m cm cs : Nat) (msg oth : List Int) (hO : Old w (.slice pm n cm) msg) (hmb : IsBytes msg) (hn : n = msg.length) (hn5 : n ≤ 50) (hS : Old w (.slice ps m cs) oth) (hgb : IsBytes oth) (hmn : m = oth.length) (hm5 : m ≤ 50) (heq : ¬ msg = oth) :
    Calls Try.prog 9 #[.agg (u8s (id ++ seed)).toArray, .int .i64 q0, .int .i64 x0, .slice pm n cm, .slice ps m cs] w fun e w' => e = .returned (.bool true) ∧ Own w w' [] := by
  have H := Own.refl w
  have hsz := Lib.hid (size_idL h16)
  have hsz48 := Lib.hid (size_secretL h16 h32)
  have hto := Lib.hid otold_any
  have hOw := Lib.hid hO
  have hSw := Lib.hid hS
  have hwd := Lib.hid hwd0
  obtain ⟨q, hqe, hq⟩ := rem_wrap q0 32 (by omega) (by omega)
  have hq32 : q < 32 := by omega
  have hch : Hid (∀ w', Calls Try.prog 15 #[.int .i64 1] w' fun e w'' => e = .returned (.int .i64 265) ∧ Own w' w'' []) := fun w' => chains_any w' 1
  have hsig : Hid (∀ w' v, Old w' v msg → Calls Try.prog 16 #[.agg (u8s (id ++ seed)).toArray, .int .i64 q, .int .i64 1, v] w' fun e w'' => ∃ b off c, e = .returned (.tuple #[.slice (some ⟨b, off, none⟩) 8516 c, .int .i64 0]) ∧ 8516 ≤ c ∧ Old w'' (.slice (some ⟨b, off, none⟩) 8516 c) (sigOf id seed q 1 msg) ∧ Own w' w'' []) := fun w' v h => signQ_any w' id seed h16 h32 q 1 hq32 (by omega) v msg h hmb (by omega) rfl
  have hsig2 : Hid (∀ w' v, Old w' v oth → Calls Try.prog 16 #[.agg (u8s (id ++ seed)).toArray, .int .i64 q, .int .i64 1, v] w' fun e w'' => ∃ b off c, e = .returned (.tuple #[.slice (some ⟨b, off, none⟩) 8516 c, .int .i64 0]) ∧ 8516 ≤ c ∧ Old w'' (.slice (some ⟨b, off, none⟩) 8516 c) (sigOf id seed q 1 oth) ∧ Own w' w'' []) := fun w' v h => signQ_any w' id seed h16 h32 q 1 hq32 (by omega) v oth h hgb (by omega) rfl
  obtain ⟨sg, hsg⟩ : ∃ s, s = sigOf id seed q 1 msg := ⟨_, rfl⟩
  obtain ⟨so, hso⟩ : ∃ s, s = sigOf id seed q 1 oth := ⟨_, rfl⟩
  have hsgl : Hid (sg.length = 8516) := by show _ = _; rw [hsg, length_sigOf]; rfl
  have hsol : Hid (so.length = 8516) := by show _ = _; rw [hso, length_sigOf]; rfl
  have hsgb : Hid (IsBytes sg) := by rw [hsg]; exact isBytes_sigOf _ _ _ _ _
  have hsob : Hid (IsBytes so) := by rw [hso]; exact isBytes_sigOf _ _ _ _ _
  have hg4 : Hid (sg.take 4 = [0, 0, 0, 1]) := by show _ = _; rw [hsg, take4_sigOf]; kernel_rfl
  have hg36 : Hid (sg.take 36 = so.take 36) := by show _ = _; rw [hsg, hso, take36_sigOf, take36_sigOf]
  have hcan : Hid (∀ w' v u, Old w' v msg → Old w' u (sg.take 8515) → Calls Try.prog 18 #[.agg (u8s id).toArray, .int .i64 q, .int .i64 1, v, u] w' fun e w'' => e = .returned (.tuple #[.agg (u8s (List.replicate 32 0)).toArray, .int .i64 3]) ∧ Own w' w'' []) := fun w' v u h1 h2 => cand_len w' id q 1 hq32 (by omega) v u _ h2 (by rw [List.length_take, hsgl.out]; decide) (by rw [List.length_take, hsgl.out]; decide)
  have hs4 : Hid (∀ w' v u, Old w' v (sg.take 4) → BytesAt w' u [0, 0, 0, 1] → Calls Try.prog 19 #[v, u] w' fun e w'' => e = .returned (.bool true) ∧ Own w' w'' []) := fun w' v u h1 h2 => by
    have h := same_any w' v u _ _ h1.1 h2 (isBytes_take hsgb.out 4) (by rw [← hg4.out]; exact isBytes_take hsgb.out 4)
    rw [decide_eq_true hg4.out] at h
    exact h
  have hs36 : Hid (∀ w' v u, Old w' v (sg.take 36) → Old w' u (so.take 36) → Calls Try.prog 19 #[v, u] w' fun e w'' => e = .returned (.bool true) ∧ Own w' w'' []) := fun w' v u h1 h2 => by
    have h := same_any w' v u _ _ h1.1 h2.1 (isBytes_take hsgb.out 36) (isBytes_take hsob.out 36)
    rw [decide_eq_true hg36.out] at h
    exact h
  have hsmo : Hid (∀ w' v u, Old w' v msg → Old w' u oth → Calls Try.prog 19 #[v, u] w' fun e w'' => e = .returned (.bool false) ∧ Own w' w'' []) := fun w' v u h1 h2 => by
    have h := same_any w' v u _ _ h1.1 h2.1 hmb hgb
    rw [decide_eq_false heq] at h
    exact h
  simp only [← hsg, ← hso] at hsig hsig2
  have eZ1 : ∀ w, (Op.equalIn 10000 23 (.agg (u8s [0, 0, 0, 0, 0, 0, 0, 0, 0, 0, 0, 0, 0, 0, 0, 0, 0, 0, 0, 0, 0, 0, 0, 0, 0, 0, 0, 0, 0, 0, 0, 0]).toArray) (.agg (u8s [0, 0, 0, 0, 0, 0, 0, 0, 0, 0, 0, 0, 0, 0, 0, 0, 0, 0, 0, 0, 0, 0, 0, 0, 0, 0, 0, 0, 0, 0, 0, 0]).toArray)).run Try.prog w = .ok true w := fun w => by rw [eqHash w _ _ rfl rfl]; simp
  have eZ2 : ∀ w, (Op.equalIn 10000 23 (.agg (u8s [0, 0, 0, 0, 0, 0, 0, 0, 0, 0, 0, 0, 0, 0, 0, 0, 0, 0, 0, 0, 0, 0, 0, 0, 0, 0, 0, 0, 0, 0, 0, 0]).toArray) (.agg #[.int .u8 0, .int .u8 0, .int .u8 0, .int .u8 0, .int .u8 0, .int .u8 0, .int .u8 0, .int .u8 0, .int .u8 0, .int .u8 0, .int .u8 0, .int .u8 0, .int .u8 0, .int .u8 0, .int .u8 0, .int .u8 0, .int .u8 0, .int .u8 0, .int .u8 0, .int .u8 0, .int .u8 0, .int .u8 0, .int .u8 0, .int .u8 0, .int .u8 0, .int .u8 0, .int .u8 0, .int .u8 0, .int .u8 0, .int .u8 0, .int .u8 0, .int .u8 0])).run Try.prog w = .ok true w := fun w => eZ1 w
  clear hO hmb hn hS hgb hmn heq h16 h32 hwd0 hsg hso hq
  go_enter Try.func9, Try.ntmps9
  have tok1 : True := trivial
  go_wp2_with (first
    | (clear tok1; refine st_new rfl (rn_box (cs := u8s (id ++ seed)) H rfl rfl rfl) ?_; clear H; intro b5 w1 hb5 H; have tok2 : True := trivial)
    | (clear tok2; go_at_call 20; refine (hwd.out _).mono ?_; rintro e w2 ⟨rfl, h3⟩; have H2 := H.call0 h3; clear H h3; have H := H2; clear H2; have tok3 : True := trivial)
    | (clear tok3; refine st_val rfl (rn_loadAll (cs := u8s (id ++ seed)) H rfl rfl (.head _) rfl rfl hsz48.out) ?_; have tok4 : True := trivial)
    | (clear tok4; go_at_call 16; refine (hsig.out _ _ (hOw.out.mv H (by simp; omega))).mono ?_; rintro e w6 ⟨pa, oa, ca, rfl, gca, hA, h3⟩; have H2 := H.call0 h3; have A6 := Lib.hid hA; clear H h3 hA; have H := H2; clear H2; have tok5 : True := trivial)
    | (clear tok5; refine st_val rfl (rn_loadAll (cs := u8s (id ++ seed)) H rfl rfl (.head _) rfl rfl hsz48.out) ?_; have tok6 : True := trivial)
    | (clear tok6; go_at_call 16; refine (hsig2.out _ _ (hSw.out.mv H (by simp; omega))).mono ?_; rintro e w7 ⟨pb, ob, cb, rfl, gcb, hB, h3⟩; have A7 := Lib.hid (A6.out.mv h3 (by simp)); have B7 := Lib.hid hB; have H2 := H.call0 h3; have HW := Lib.hid H2; have M7 := Lib.hid (hOw.out.mv H2 (by simp; omega)); have S7 := Lib.hid (hSw.out.mv H2 (by simp; omega));
        have c5i := Lib.hid (fun (w' : World) (L : List Ent) (h : Own w7 w' L) (hn : ∀ k ∈ L.map (·.1), w7.heap.size ≤ k) => show ∀ j v, (u8s id)[j]? = some v → w'.cell? ⟨b5, 0 + j, none⟩ = some v from fun j v hj => h.old (HW.out.rowL (.head _) j v hj) (fun hm => by have := hn _ hm; have := HW.out.lt (.head _); omega));
        clear H H2 h3 hB A6; have H := Own.refl w7; have tok7 : True := trivial)
    | (clear tok7; go_at_call 15; refine (hch.out _).mono ?_; rintro e w8 ⟨rfl, h3⟩; have H2 := H.call0 h3; clear H h3; have H := H2; clear H2; have tok8 : True := trivial)
    | (clear tok8; refine st_new rfl (rn_buildSlice (e := 3) (cs := i64s [0, 1, 2, 0, 3]) H rfl (fun w' => by kernel_rfl)) ?_; clear H; intro b74 w9 hb74 H; have tok9 : True := trivial)
    | (clear tok9; refine st_val rfl (rn_load H rfl rfl (.head _) rfl rfl rfl) ?_; have tok10 : True := trivial)
    | (clear tok10; refine st_new rfl (rn_buildSlice (e := 5) (cs := u8s [0, 0, 0, 1]) H rfl (fun w' => by kernel_rfl)) ?_; clear H; intro b18 w10 hb18 H; have tok11 : True := trivial))
  have H10 := Lib.hid H
  have hmv : Hid (∀ w' L, Own w10 w' L → (∀ k ∈ L.map (·.1), w10.heap.size ≤ k) → ∃ L', Own w7 w' L' ∧ (∀ k ∈ L'.map (·.1), w7.heap.size ≤ k)) := fun w' L h hn => ⟨[], Own.transNew H10.out h (by simp; omega) (fun k hk => Nat.le_trans H10.out.size (hn k hk)), by simp⟩
  obtain ⟨B, hB⟩ : ∃ B, B = w10.heap.size := ⟨_, rfl⟩
  obtain ⟨St, hSt⟩ : ∃ St : Nat → Act → World → Prop, St = fun s a' w' => match s with
      | 0 => Own w10 w' []
      | _ => ∃ g, a'.tmps.getD 19 undef = .pointer (some ⟨g, 0, none⟩) ∧ B ≤ g ∧ Own w10 w' [(g, u8s (List.replicate 32 0), 23)] := ⟨_, rfl⟩
  have hSb : Hid (∀ w', (∃ s a', St s a' w') → ∃ L, Own w10 w' L ∧ ∀ k ∈ L.map (·.1), B ≤ k) := fun w' ⟨s, a', h⟩ => by
    rw [hSt] at h
    cases s with
    | zero => exact ⟨_, h, by simp⟩
    | succ s => obtain ⟨g, _, h2, h3⟩ := h; exact ⟨_, h3, by simpa using h2⟩
  have hS0 : Hid (∀ a' w', St 0 a' w' ↔ Own w10 w' []) := fun a' w' => by rw [hSt]; exact Iff.rfl
  have hS1 : Hid (∀ a' w', St 1 a' w' ↔ ∃ g, a'.tmps.getD 19 undef = .pointer (some ⟨g, 0, none⟩) ∧ B ≤ g ∧ Own w10 w' [(g, u8s (List.replicate 32 0), 23)]) := fun a' w' => by rw [hSt]; exact Iff.rfl
  have hSm : Hid (∀ s a' w1 w2, St s a' w1 → Own w1 w2 [] → St s a' w2) := fun s a' w1 w2 h1 h2 => by
    rw [hSt] at h1 ⊢
    cases s with
    | zero => exact Own.call0 h1 h2
    | succ s => obtain ⟨g, h3, h4, h5⟩ := h1; exact ⟨g, h3, h4, h5.call0 h2⟩
  have hSp : Hid (∀ s a' w' d v, (d ∉ [19] ∨ s ≤ 0) → St s a' w' → St s (a'.put (some d) v) w') := fun s a' w' d v hd h => by
    rw [hSt] at h ⊢
    cases s with
    | zero => exact h
    | succ s =>
      obtain ⟨g, h3, h4⟩ := h
      refine ⟨g, ?_, h4⟩
      have hne : d ≠ 19 := by
        rcases hd with hd | hd
        · simpa using hd
        · omega
      rw [← h3]
      show (a'.tmps.setIfInBounds d v).getD 19 undef = _
      simp [hne]
  clear hSt
  have hB' := Lib.hid hB
  clear hB H
  refine region_effF 15 (by kernel_rfl) (by kernel_rfl) (by kernel_rfl) [.val (.pointer (some ⟨b5, 0, none⟩)), .val (.agg (u8s id).toArray), .val (.int .i64 q), .val (.int .i64 1), .val (.slice pm n cm), .val (.slice (some ⟨pa, oa, none⟩) 8516 ca), .val (.int .i64 8516), .val (.int .i64 8515), .val (.slice (some ⟨pa, oa + 0, none⟩) 8515 (ca - 0)), .val (.tuple #[.agg (u8s (List.replicate 32 0)).toArray, .int .i64 3]), .val (.tuple #[.agg (u8s (List.replicate 32 0)).toArray, .int .i64 3]), .val (.agg (u8s (List.replicate 32 0)).toArray), .val (.int .i64 3), .rel (CellH B), .eff (HsE B) (fun _ _ => True)] rfl ?_ (by kernel_rfl) St ((hS0.out _ _).2 (Own.refl _)) hSm.out [19] 14 (fun s a' w' d v h1 h2 => hSp.out s a' w' d v h1 h2) (by kernel_rfl) ?_
  · simp only [eAll, eRow, Se.pres, or_true, true_and, and_true, implies_true]
    exact Or.inr (Or.inr CellH.pres)
  have tok3 : True := trivial
  try go_frame
  repeat (first
    | (clear tok3; refine sf_run (v := .agg (u8s id).toArray) rfl (fun w' hw' _ => rn_cells rfl rfl rfl rfl hsz.out (by obtain ⟨L, h1, h2⟩ := hSb.out w' hw'; obtain ⟨L', h3, h4⟩ := hmv.out _ _ h1 (fun k hk => by rw [← hB'.out]; exact h2 k hk); exact c5i.out _ _ h3 h4)) ?_; try go_frame; have tok4 : True := trivial)
    | (clear tok4; refine sf_run (v := .slice (some ⟨pa, oa + 0, none⟩) 8515 (ca - 0)) rfl (fun w' hw' _ => rn_part (l := 0) (h := 8515) rfl rfl size_u8 rfl (by exact .no _) (by exact .yes rfl) (by omega) (by omega) gca rfl rfl) ?_; try go_frame; have tok5 : True := trivial)
    | (clear tok5; refine sf_callN (v := .tuple #[.agg (u8s (List.replicate 32 0)).toArray, .int .i64 3]) (args := #[.agg (u8s id).toArray, .int .i64 q, .int .i64 1, .slice pm n cm, .slice (some ⟨pa, oa + 0, none⟩) 8515 (ca - 0)]) rfl rfl (by simp [Act.eval]) Try.func18 (by kernel_rfl) (by kernel_rfl) (fun w' hw' _ => by obtain ⟨L, h1, h2⟩ := hSb.out w' hw'; obtain ⟨L', h3, h4⟩ := hmv.out _ _ h1 (fun k hk => by rw [← hB'.out]; exact h2 k hk); exact hcan.out w' _ _ (M7.out.mv h3 h4) (by have h5 := (A7.out.mv h3 h4).part (l := 0) (m := 8515) (d := ca - 0) hsgl.out.symm (by omega) (by omega) (by omega); rw [List.drop_zero] at h5; exact h5)) ?_; try go_frame; have tok6 : True := trivial)
    | (clear tok6; refine sf_rel CellH.mono rfl (fun w' hw' hF => cellH_alloc rfl info_hash (by obtain ⟨L, h1, h2⟩ := hSb.out w' hw'; rw [hB'.out]; exact h1.size)) ?_
       intro v19; try go_frame; have tok7 : True := trivial)
    | (clear tok7; refine sf_store rfl rfl (fun a' w' hag hS hF => ?_) ?_
       · have q2 := (hS0.out a' w').1 hS
         obtain ⟨g, c0, e13, q5, q6, q7⟩ := hF.2 _ rfl (List.mem_of_elem_eq_true (by kernel_rfl))
         subst e13
         have hone : Own w' w' [(g, c0, 23)] := Own.one q7
         have hag13 : a'.tmps.getD 19 undef = .pointer (some ⟨g, 0, none⟩) := hag 19 (List.mem_of_elem_eq_true (by kernel_rfl))
         exact (rn_storeAll (vs := u8s (List.replicate 32 0)) hone rfl rfl rfl (by kernel_rfl) .head (by rw [q6]; kernel_rfl) (oneCell_ints _ _)).imp fun w'' h => ⟨h.1, ⟨g, c0, _, q5, q7, by kernel_rfl, h.2⟩, (hS1.out a' w'').2 ⟨g, hag13, q5, Own.adopt (q2.young h.2 (by rw [← hB'.out]; exact q5) (by simp)) (h.2.here _ _ _ (.head _)) (by simp)⟩⟩
       try go_frame)
    | (refine sf_val (fun w' hw' hF => ?_) ⟨_, rfl, Nat.le_of_ble_eq_true rfl⟩ ?_
       · go_big_quiet_step (fail)
         exact rfl
       try go_frame))
  refine sf_nil ?_
  intro w11 hS hF
  obtain ⟨g, e13, q5, q7⟩ := (hS1.out _ _).1 hS
  have e13' : v19 = .pointer (some ⟨g, 0, none⟩) := e13
  subst e13'
  have H11 := Lib.hid q7
  have q5' := Lib.hid (hB'.out ▸ q5)
  clear hS hF hSb hS0 hS1 hSm hSp St e13 q5 q7 hcan hB'
  simp only [List.drop_succ_cons, List.drop_zero]
  go_wp2_with fail
  have hmw : Hid (∀ w', Own w11 w' [] → ∃ L', Own w7 w' L' ∧ (∀ k ∈ L'.map (·.1), w7.heap.size ≤ k)) := fun w' h => hmv.out w' _ (H11.out.call0 h) (by have := q5'.out; simpa using this)
  have hcd : Hid (∀ w', Own w11 w' [] → BytesAt w' (.slice (some ⟨b18, 0, none⟩) 4 4) [0, 0, 0, 1]) := fun w' h => by
    have h1 : Own w10 w' [(g, u8s (List.replicate 32 0), 23)] := H11.out.call0 h
    have h2 : BytesAt w10 (.slice (some ⟨b18, 0, none⟩) 4 4) [0, 0, 0, 1] := Own.litM H10.out (.head _) rfl
    exact SlAt.own h2 h1 (fun k hk hm => by obtain rfl := (blk_some hk).1; have := H10.out.lt (.head _); have := q5'.out; simp at hm; omega)
  refine region_grow 34 (by kernel_rfl) (by kernel_rfl) (by kernel_rfl) [.val (.bool true), .val (.bool true), .val (.slice (some ⟨pa, oa, none⟩) 8516 ca), .val (.slice (some ⟨pa, oa + 0, none⟩) 4 (ca - 0)), .val (.slice (some ⟨b18, 0, none⟩) 4 4), .val (.bool true), .val (.bool true), .val (.bool true), .val (.slice (some ⟨pa, oa, none⟩) 8516 ca), .val (.slice (some ⟨pa, oa + 0, none⟩) 36 (ca - 0)), .val (.slice (some ⟨pb, ob, none⟩) 8516 cb), .val (.slice (some ⟨pb, ob + 0, none⟩) 36 (cb - 0)), .val (.bool true), .val (.bool true), .val (.bool true), .val (.slice pm n cm), .val (.slice ps m cs), .val (.bool false), .val (.bool true), .val (.bool true), .val undef, .val undef, .val undef, .val (.bool true), .val (.bool true), .val (.bool true), .val (.int .i64 3), .val (.bool true), .val (.bool true), .val (.bool true), .val (.agg (u8s (List.replicate 32 0)).toArray), .val (.agg (u8s (List.replicate 32 0)).toArray), .val (.bool true), .val (.bool true)] rfl ?_
  have tok3 : True := trivial
  try go_frame
  repeat (first
    | (clear tok3; refine sp_callN (v := .bool true) (args := #[]) rfl rfl (by simp) Try.func14 (by kernel_rfl) (by kernel_rfl) (fun w' _ _ => hto.out w') ?_; try go_frame; have tok4 : True := trivial)
    | (clear tok4; refine sp_run (v := .slice (some ⟨pa, oa + 0, none⟩) 4 (ca - 0)) rfl (fun w' hw' _ => rn_part (l := 0) (h := 4) rfl rfl size_u8 rfl (by exact .no _) (by exact .yes rfl) (by omega) (by omega) gca rfl rfl) ?_; try go_frame; have tok5 : True := trivial)
    | (clear tok5; refine sp_callN (v := .bool true) (args := #[.slice (some ⟨pa, oa + 0, none⟩) 4 (ca - 0), .slice (some ⟨b18, 0, none⟩) 4 4]) rfl rfl (by simp [Act.eval]) Try.func19 (by kernel_rfl) (by kernel_rfl) (fun w' hw' _ => by obtain ⟨L', h3, h4⟩ := hmw.out w' hw'; exact hs4.out w' _ _ (by have h5 := (A7.out.mv h3 h4).part (l := 0) (m := 4) (d := ca - 0) hsgl.out.symm (by omega) (by omega) (by omega); rw [List.drop_zero] at h5; exact h5) (hcd.out w' hw')) ?_; try go_frame; have tok6 : True := trivial)
    | (clear tok6; refine sp_run (v := .slice (some ⟨pa, oa + 0, none⟩) 36 (ca - 0)) rfl (fun w' hw' _ => rn_part (l := 0) (h := 36) rfl rfl size_u8 rfl (by exact .no _) (by exact .yes rfl) (by omega) (by omega) gca rfl rfl) ?_; try go_frame; have tok7 : True := trivial)
    | (clear tok7; refine sp_run (v := .slice (some ⟨pb, ob + 0, none⟩) 36 (cb - 0)) rfl (fun w' hw' _ => rn_part (l := 0) (h := 36) rfl rfl size_u8 rfl (by exact .no _) (by exact .yes rfl) (by omega) (by omega) gcb rfl rfl) ?_; try go_frame; have tok8 : True := trivial)
    | (clear tok8; refine sp_callN (v := .bool true) (args := #[.slice (some ⟨pa, oa + 0, none⟩) 36 (ca - 0), .slice (some ⟨pb, ob + 0, none⟩) 36 (cb - 0)]) rfl rfl (by simp [Act.eval]) Try.func19 (by kernel_rfl) (by kernel_rfl) (fun w' hw' _ => by obtain ⟨L', h3, h4⟩ := hmw.out w' hw'; exact hs36.out w' _ _ (by have h5 := (A7.out.mv h3 h4).part (l := 0) (m := 36) (d := ca - 0) hsgl.out.symm (by omega) (by omega) (by omega); rw [List.drop_zero] at h5; exact h5) (by have h5 := (B7.out.mv h3 h4).part (l := 0) (m := 36) (d := cb - 0) hsol.out.symm (by omega) (by omega) (by omega); rw [List.drop_zero] at h5; exact h5)) ?_; try go_frame; have tok9 : True := trivial)
    | (clear tok9; refine sp_callN (v := .bool false) (args := #[.slice pm n cm, .slice ps m cs]) rfl rfl (by simp [Act.eval]) Try.func19 (by kernel_rfl) (by kernel_rfl) (fun w' hw' _ => by obtain ⟨L', h3, h4⟩ := hmw.out w' hw'; exact hsmo.out w' _ _ (M7.out.mv h3 h4) (S7.out.mv h3 h4)) ?_; try go_frame; have tok10 : True := trivial)
    | (refine sp_skip rfl ?_; try go_frame)
    | (clear tok10; refine sp_run (v := .agg (u8s (List.replicate 32 0)).toArray) rfl (fun w' hw' _ => rn_cells rfl rfl rfl rfl (by kernel_rfl) (fun j v hj => by rw [(H11.out.call0 hw').cell (.head _), Nat.zero_add]; exact hj)) ?_; try go_frame; have tok12 : True := trivial)
    | (refine sp_val (fun w' hw' hF => ?_) ⟨_, rfl, Nat.le_of_ble_eq_true rfl⟩ ?_
       · go_big_quiet_step (fail)
         exact rfl
       try go_frame))
  refine sp_nil ?_
  intro w12 hw' hF
  have h1 : Hid (Own w w12 []) := (HW.out.end0 (by simp; omega)).trans ((Own.transNew H10.out (H11.out.call0 hw') (by simp; omega) (by have := q5'.out; have := H10.out.size; simp; omega)))
  clear hw' hF
  simp only [List.drop_succ_cons, List.drop_zero]
  go_wp2_with fail
  go_ret
  exact ⟨rfl, h1.out⟩

set_option maxRecDepth 100000 in
set_option maxHeartbeats 8000000 in
theorem otsForms_2e (w : World) (id seed : List Int) (h16 : id.length = 16) (h32 : seed.length = 32) (q0 x0 : Int) (hwd0 : ∀ w, Calls Try.prog 20 #[.int .i64 x0] w fun e w' => e = .returned (.int .i64 2) ∧ Own w w' [])
    (pm ps : Option Addr) (n m cm cs : Nat) (msg oth : List Int) (hO : Old w (.slice pm n cm) msg) (hmb : IsBytes msg) (hn : n = msg.length) (hn5 : n ≤ 50) (hS : Old w (.slice ps m cs) oth) (hgb : IsBytes oth) (hmn : m = oth.length) (hm5 : m ≤ 50) (heq : msg = oth) :
    Calls Try.prog 9 #[.agg (u8s (id ++ seed)).toArray, .int .i64 q0, .int .i64 x0, .slice pm n cm, .slice ps m cs] w fun e w' => e = .returned (.bool true) ∧ Own w w' [] := by
  have H := Own.refl w
  have hsz := Lib.hid (size_idL h16)
  have hsz48 := Lib.hid (size_secretL h16 h32)
  have hto := Lib.hid otold_any
  have hOw := Lib.hid hO
  have hSw := Lib.hid hS
  have hwd := Lib.hid hwd0
  obtain ⟨q, hqe, hq⟩ := rem_wrap q0 32 (by omega) (by omega)
  have hq32 : q < 32 := by omega
  have hch : Hid (∀ w', Calls Try.prog 15 #[.int .i64 2] w' fun e w'' => e = .returned (.int .i64 133) ∧ Own w' w'' []) := fun w' => chains_any w' 2
  have hsig : Hid (∀ w' v, Old w' v msg → Calls Try.prog 16 #[.agg (u8s (id ++ seed)).toArray, .int .i64 q, .int .i64 2, v] w' fun e w'' => ∃ b off c, e = .returned (.tuple #[.slice (some ⟨b, off, none⟩) 4292 c, .int .i64 0]) ∧ 4292 ≤ c ∧ Old w'' (.slice (some ⟨b, off, none⟩) 4292 c) (sigOf id seed q 2 msg) ∧ Own w' w'' []) := fun w' v h => signQ_any w' id seed h16 h32 q 2 hq32 (by omega) v msg h hmb (by omega) rfl
  have hsig2 : Hid (∀ w' v, Old w' v oth → Calls Try.prog 16 #[.agg (u8s (id ++ seed)).toArray, .int .i64 q, .int .i64 2, v] w' fun e w'' => ∃ b off c, e = .returned (.tuple #[.slice (some ⟨b, off, none⟩) 4292 c, .int .i64 0]) ∧ 4292 ≤ c ∧ Old w'' (.slice (some ⟨b, off, none⟩) 4292 c) (sigOf id seed q 2 oth) ∧ Own w' w'' []) := fun w' v h => signQ_any w' id seed h16 h32 q 2 hq32 (by omega) v oth h hgb (by omega) rfl
  obtain ⟨sg, hsg⟩ : ∃ s, s = sigOf id seed q 2 msg := ⟨_, rfl⟩
  obtain ⟨so, hso⟩ : ∃ s, s = sigOf id seed q 2 oth := ⟨_, rfl⟩
  have hsgl : Hid (sg.length = 4292) := by show _ = _; rw [hsg, length_sigOf]; rfl
  have hsol : Hid (so.length = 4292) := by show _ = _; rw [hso, length_sigOf]; rfl
  have hsgb : Hid (IsBytes sg) := by rw [hsg]; exact isBytes_sigOf _ _ _ _ _
  have hsob : Hid (IsBytes so) := by rw [hso]; exact isBytes_sigOf _ _ _ _ _
  have hg4 : Hid (sg.take 4 = [0, 0, 0, 2]) := by show _ = _; rw [hsg, take4_sigOf]; kernel_rfl
  have hg36 : Hid (sg.take 36 = so.take 36) := by show _ = _; rw [hsg, hso, take36_sigOf, take36_sigOf]
  have hcan : Hid (∀ w' v u, Old w' v msg → Old w' u (sg.take 4291) → Calls Try.prog 18 #[.agg (u8s id).toArray, .int .i64 q, .int .i64 2, v, u] w' fun e w'' => e = .returned (.tuple #[.agg (u8s (List.replicate 32 0)).toArray, .int .i64 3]) ∧ Own w' w'' []) := fun w' v u h1 h2 => cand_len w' id q 2 hq32 (by omega) v u _ h2 (by rw [List.length_take, hsgl.out]; decide) (by rw [List.length_take, hsgl.out]; decide)
  have hs4 : Hid (∀ w' v u, Old w' v (sg.take 4) → BytesAt w' u [0, 0, 0, 2] → Calls Try.prog 19 #[v, u] w' fun e w'' => e = .returned (.bool true) ∧ Own w' w'' []) := fun w' v u h1 h2 => by
    have h := same_any w' v u _ _ h1.1 h2 (isBytes_take hsgb.out 4) (by rw [← hg4.out]; exact isBytes_take hsgb.out 4)
    rw [decide_eq_true hg4.out] at h
    exact h
  have hs36 : Hid (∀ w' v u, Old w' v (sg.take 36) → Old w' u (so.take 36) → Calls Try.prog 19 #[v, u] w' fun e w'' => e = .returned (.bool true) ∧ Own w' w'' []) := fun w' v u h1 h2 => by
    have h := same_any w' v u _ _ h1.1 h2.1 (isBytes_take hsgb.out 36) (isBytes_take hsob.out 36)
    rw [decide_eq_true hg36.out] at h
    exact h
  have hsmo : Hid (∀ w' v u, Old w' v msg → Old w' u oth → Calls Try.prog 19 #[v, u] w' fun e w'' => e = .returned (.bool true) ∧ Own w' w'' []) := fun w' v u h1 h2 => by
    have h := same_any w' v u _ _ h1.1 h2.1 hmb hgb
    rw [decide_eq_true heq] at h
    exact h
  have hsgo : Hid (∀ w' v u, Old w' v sg → Old w' u so → Calls Try.prog 19 #[v, u] w' fun e w'' => e = .returned (.bool true) ∧ Own w' w'' []) := fun w' v u h1 h2 => by
    have h := same_any w' v u _ _ h1.1 h2.1 hsgb.out hsob.out
    rw [decide_eq_true (by rw [hsg, hso, heq])] at h
    exact h
  simp only [← hsg, ← hso] at hsig hsig2
  have eZ1 : ∀ w, (Op.equalIn 10000 23 (.agg (u8s [0, 0, 0, 0, 0, 0, 0, 0, 0, 0, 0, 0, 0, 0, 0, 0, 0, 0, 0, 0, 0, 0, 0, 0, 0, 0, 0, 0, 0, 0, 0, 0]).toArray) (.agg (u8s [0, 0, 0, 0, 0, 0, 0, 0, 0, 0, 0, 0, 0, 0, 0, 0, 0, 0, 0, 0, 0, 0, 0, 0, 0, 0, 0, 0, 0, 0, 0, 0]).toArray)).run Try.prog w = .ok true w := fun w => by rw [eqHash w _ _ rfl rfl]; simp
  have eZ2 : ∀ w, (Op.equalIn 10000 23 (.agg (u8s [0, 0, 0, 0, 0, 0, 0, 0, 0, 0, 0, 0, 0, 0, 0, 0, 0, 0, 0, 0, 0, 0, 0, 0, 0, 0, 0, 0, 0, 0, 0, 0]).toArray) (.agg #[.int .u8 0, .int .u8 0, .int .u8 0, .int .u8 0, .int .u8 0, .int .u8 0, .int .u8 0, .int .u8 0, .int .u8 0, .int .u8 0, .int .u8 0, .int .u8 0, .int .u8 0, .int .u8 0, .int .u8 0, .int .u8 0, .int .u8 0, .int .u8 0, .int .u8 0, .int .u8 0, .int .u8 0, .int .u8 0, .int .u8 0, .int .u8 0, .int .u8 0, .int .u8 0, .int .u8 0, .int .u8 0, .int .u8 0, .int .u8 0, .int .u8 0, .int .u8 0])).run Try.prog w = .ok true w := fun w => eZ1 w
  clear hO hmb hn hS hgb hmn heq h16 h32 hwd0 hsg hso hq
  go_enter Try.func9, Try.ntmps9
  have tok1 : True := trivial
  go_wp2_with (first
    | (clear tok1; refine st_new rfl (rn_box (cs := u8s (id ++ seed)) H rfl rfl rfl) ?_; clear H; intro b5 w1 hb5 H; have tok2 : True := trivial)
    | (clear tok2; go_at_call 20; refine (hwd.out _).mono ?_; rintro e w2 ⟨rfl, h3⟩; have H2 := H.call0 h3; clear H h3; have H := H2; clear H2; have tok3 : True := trivial)
    | (clear tok3; refine st_val rfl (rn_loadAll (cs := u8s (id ++ seed)) H rfl rfl (.head _) rfl rfl hsz48.out) ?_; have tok4 : True := trivial)
    | (clear tok4; go_at_call 16; refine (hsig.out _ _ (hOw.out.mv H (by simp; omega))).mono ?_; rintro e w6 ⟨pa, oa, ca, rfl, gca, hA, h3⟩; have H2 := H.call0 h3; have A6 := Lib.hid hA; clear H h3 hA; have H := H2; clear H2; have tok5 : True := trivial)
    | (clear tok5; refine st_val rfl (rn_loadAll (cs := u8s (id ++ seed)) H rfl rfl (.head _) rfl rfl hsz48.out) ?_; have tok6 : True := trivial)
    | (clear tok6; go_at_call 16; refine (hsig2.out _ _ (hSw.out.mv H (by simp; omega))).mono ?_; rintro e w7 ⟨pb, ob, cb, rfl, gcb, hB, h3⟩; have A7 := Lib.hid (A6.out.mv h3 (by simp)); have B7 := Lib.hid hB; have H2 := H.call0 h3; have HW := Lib.hid H2; have M7 := Lib.hid (hOw.out.mv H2 (by simp; omega)); have S7 := Lib.hid (hSw.out.mv H2 (by simp; omega));
        have c5i := Lib.hid (fun (w' : World) (L : List Ent) (h : Own w7 w' L) (hn : ∀ k ∈ L.map (·.1), w7.heap.size ≤ k) => show ∀ j v, (u8s id)[j]? = some v → w'.cell? ⟨b5, 0 + j, none⟩ = some v from fun j v hj => h.old (HW.out.rowL (.head _) j v hj) (fun hm => by have := hn _ hm; have := HW.out.lt (.head _); omega));
        clear H H2 h3 hB A6; have H := Own.refl w7; have tok7 : True := trivial)
    | (clear tok7; go_at_call 15; refine (hch.out _).mono ?_; rintro e w8 ⟨rfl, h3⟩; have H2 := H.call0 h3; clear H h3; have H := H2; clear H2; have tok8 : True := trivial)
    | (clear tok8; refine st_new rfl (rn_buildSlice (e := 3) (cs := i64s [0, 1, 2, 0, 3]) H rfl (fun w' => by kernel_rfl)) ?_; clear H; intro b74 w9 hb74 H; have tok9 : True := trivial)
    | (clear tok9; refine st_val rfl (rn_load H rfl rfl (.head _) rfl rfl rfl) ?_; have tok10 : True := trivial)
    | (clear tok10; refine st_new rfl (rn_buildSlice (e := 5) (cs := u8s [0, 0, 0, 2]) H rfl (fun w' => by kernel_rfl)) ?_; clear H; intro b18 w10 hb18 H; have tok11 : True := trivial))
  have H10 := Lib.hid H
  have hmv : Hid (∀ w' L, Own w10 w' L → (∀ k ∈ L.map (·.1), w10.heap.size ≤ k) → ∃ L', Own w7 w' L' ∧ (∀ k ∈ L'.map (·.1), w7.heap.size ≤ k)) := fun w' L h hn => ⟨[], Own.transNew H10.out h (by simp; omega) (fun k hk => Nat.le_trans H10.out.size (hn k hk)), by simp⟩
  obtain ⟨B, hB⟩ : ∃ B, B = w10.heap.size := ⟨_, rfl⟩
  obtain ⟨St, hSt⟩ : ∃ St : Nat → Act → World → Prop, St = fun s a' w' => match s with
      | 0 => Own w10 w' []
      | _ => ∃ g, a'.tmps.getD 19 undef = .pointer (some ⟨g, 0, none⟩) ∧ B ≤ g ∧ Own w10 w' [(g, u8s (List.replicate 32 0), 23)] := ⟨_, rfl⟩
  have hSb : Hid (∀ w', (∃ s a', St s a' w') → ∃ L, Own w10 w' L ∧ ∀ k ∈ L.map (·.1), B ≤ k) := fun w' ⟨s, a', h⟩ => by
    rw [hSt] at h
    cases s with
    | zero => exact ⟨_, h, by simp⟩
    | succ s => obtain ⟨g, _, h2, h3⟩ := h; exact ⟨_, h3, by simpa using h2⟩
  have hS0 : Hid (∀ a' w', St 0 a' w' ↔ Own w10 w' []) := fun a' w' => by rw [hSt]; exact Iff.rfl
  have hS1 : Hid (∀ a' w', St 1 a' w' ↔ ∃ g, a'.tmps.getD 19 undef = .pointer (some ⟨g, 0, none⟩) ∧ B ≤ g ∧ Own w10 w' [(g, u8s (List.replicate 32 0), 23)]) := fun a' w' => by rw [hSt]; exact Iff.rfl
  have hSm : Hid (∀ s a' w1 w2, St s a' w1 → Own w1 w2 [] → St s a' w2) := fun s a' w1 w2 h1 h2 => by
    rw [hSt] at h1 ⊢
    cases s with
    | zero => exact Own.call0 h1 h2
    | succ s => obtain ⟨g, h3, h4, h5⟩ := h1; exact ⟨g, h3, h4, h5.call0 h2⟩
  have hSp : Hid (∀ s a' w' d v, (d ∉ [19] ∨ s ≤ 0) → St s a' w' → St s (a'.put (some d) v) w') := fun s a' w' d v hd h => by
    rw [hSt] at h ⊢
    cases s with
    | zero => exact h
    | succ s =>
      obtain ⟨g, h3, h4⟩ := h
      refine ⟨g, ?_, h4⟩
      have hne : d ≠ 19 := by
        rcases hd with hd | hd
        · simpa using hd
        · omega
      rw [← h3]
      show (a'.tmps.setIfInBounds d v).getD 19 undef = _
      simp [hne]
  clear hSt
  have hB' := Lib.hid hB
  clear hB H
  refine region_effF 15 (by kernel_rfl) (by kernel_rfl) (by kernel_rfl) [.val (.pointer (some ⟨b5, 0, none⟩)), .val (.agg (u8s id).toArray), .val (.int .i64 q), .val (.int .i64 2), .val (.slice pm n cm), .val (.slice (some ⟨pa, oa, none⟩) 4292 ca), .val (.int .i64 4292), .val (.int .i64 4291), .val (.slice (some ⟨pa, oa + 0, none⟩) 4291 (ca - 0)), .val (.tuple #[.agg (u8s (List.replicate 32 0)).toArray, .int .i64 3]), .val (.tuple #[.agg (u8s (List.replicate 32 0)).toArray, .int .i64 3]), .val (.agg (u8s (List.replicate 32 0)).toArray), .val (.int .i64 3), .rel (CellH B), .eff (HsE B) (fun _ _ => True)] rfl ?_ (by kernel_rfl) St ((hS0.out _ _).2 (Own.refl _)) hSm.out [19] 14 (fun s a' w' d v h1 h2 => hSp.out s a' w' d v h1 h2) (by kernel_rfl) ?_
  · simp only [eAll, eRow, Se.pres, or_true, true_and, and_true, implies_true]
    exact Or.inr (Or.inr CellH.pres)
  have tok3 : True := trivial
  try go_frame
  repeat (first
    | (clear tok3; refine sf_run (v := .agg (u8s id).toArray) rfl (fun w' hw' _ => rn_cells rfl rfl rfl rfl hsz.out (by obtain ⟨L, h1, h2⟩ := hSb.out w' hw'; obtain ⟨L', h3, h4⟩ := hmv.out _ _ h1 (fun k hk => by rw [← hB'.out]; exact h2 k hk); exact c5i.out _ _ h3 h4)) ?_; try go_frame; have tok4 : True := trivial)
    | (clear tok4; refine sf_run (v := .slice (some ⟨pa, oa + 0, none⟩) 4291 (ca - 0)) rfl (fun w' hw' _ => rn_part (l := 0) (h := 4291) rfl rfl size_u8 rfl (by exact .no _) (by exact .yes rfl) (by omega) (by omega) gca rfl rfl) ?_; try go_frame; have tok5 : True := trivial)
    | (clear tok5; refine sf_callN (v := .tuple #[.agg (u8s (List.replicate 32 0)).toArray, .int .i64 3]) (args := #[.agg (u8s id).toArray, .int .i64 q, .int .i64 2, .slice pm n cm, .slice (some ⟨pa, oa + 0, none⟩) 4291 (ca - 0)]) rfl rfl (by simp [Act.eval]) Try.func18 (by kernel_rfl) (by kernel_rfl) (fun w' hw' _ => by obtain ⟨L, h1, h2⟩ := hSb.out w' hw'; obtain ⟨L', h3, h4⟩ := hmv.out _ _ h1 (fun k hk => by rw [← hB'.out]; exact h2 k hk); exact hcan.out w' _ _ (M7.out.mv h3 h4) (by have h5 := (A7.out.mv h3 h4).part (l := 0) (m := 4291) (d := ca - 0) hsgl.out.symm (by omega) (by omega) (by omega); rw [List.drop_zero] at h5; exact h5)) ?_; try go_frame; have tok6 : True := trivial)
    | (clear tok6; refine sf_rel CellH.mono rfl (fun w' hw' hF => cellH_alloc rfl info_hash (by obtain ⟨L, h1, h2⟩ := hSb.out w' hw'; rw [hB'.out]; exact h1.size)) ?_
       intro v19; try go_frame; have tok7 : True := trivial)
    | (clear tok7; refine sf_store rfl rfl (fun a' w' hag hS hF => ?_) ?_
       · have q2 := (hS0.out a' w').1 hS
         obtain ⟨g, c0, e13, q5, q6, q7⟩ := hF.2 _ rfl (List.mem_of_elem_eq_true (by kernel_rfl))
         subst e13
         have hone : Own w' w' [(g, c0, 23)] := Own.one q7
         have hag13 : a'.tmps.getD 19 undef = .pointer (some ⟨g, 0, none⟩) := hag 19 (List.mem_of_elem_eq_true (by kernel_rfl))
         exact (rn_storeAll (vs := u8s (List.replicate 32 0)) hone rfl rfl rfl (by kernel_rfl) .head (by rw [q6]; kernel_rfl) (oneCell_ints _ _)).imp fun w'' h => ⟨h.1, ⟨g, c0, _, q5, q7, by kernel_rfl, h.2⟩, (hS1.out a' w'').2 ⟨g, hag13, q5, Own.adopt (q2.young h.2 (by rw [← hB'.out]; exact q5) (by simp)) (h.2.here _ _ _ (.head _)) (by simp)⟩⟩
       try go_frame)
    | (refine sf_val (fun w' hw' hF => ?_) ⟨_, rfl, Nat.le_of_ble_eq_true rfl⟩ ?_
       · go_big_quiet_step (fail)
         exact rfl
       try go_frame))
  refine sf_nil ?_
  intro w11 hS hF
  obtain ⟨g, e13, q5, q7⟩ := (hS1.out _ _).1 hS
  have e13' : v19 = .pointer (some ⟨g, 0, none⟩) := e13
  subst e13'
  have H11 := Lib.hid q7
  have q5' := Lib.hid (hB'.out ▸ q5)
  clear hS hF hSb hS0 hS1 hSm hSp St e13 q5 q7 hcan hB'
  simp only [List.drop_succ_cons, List.drop_zero]
  go_wp2_with fail
  have hmw : Hid (∀ w', Own w11 w' [] → ∃ L', Own w7 w' L' ∧ (∀ k ∈ L'.map (·.1), w7.heap.size ≤ k)) := fun w' h => hmv.out w' _ (H11.out.call0 h) (by have := q5'.out; simpa using this)
  have hcd : Hid (∀ w', Own w11 w' [] → BytesAt w' (.slice (some ⟨b18, 0, none⟩) 4 4) [0, 0, 0, 2]) := fun w' h => by
    have h1 : Own w10 w' [(g, u8s (List.replicate 32 0), 23)] := H11.out.call0 h
    have h2 : BytesAt w10 (.slice (some ⟨b18, 0, none⟩) 4 4) [0, 0, 0, 2] := Own.litM H10.out (.head _) rfl
    exact SlAt.own h2 h1 (fun k hk hm => by obtain rfl := (blk_some hk).1; have := H10.out.lt (.head _); have := q5'.out; simp at hm; omega)
  refine region_grow 34 (by kernel_rfl) (by kernel_rfl) (by kernel_rfl) [.val (.bool true), .val (.bool true), .val (.slice (some ⟨pa, oa, none⟩) 4292 ca), .val (.slice (some ⟨pa, oa + 0, none⟩) 4 (ca - 0)), .val (.slice (some ⟨b18, 0, none⟩) 4 4), .val (.bool true), .val (.bool true), .val (.bool true), .val (.slice (some ⟨pa, oa, none⟩) 4292 ca), .val (.slice (some ⟨pa, oa + 0, none⟩) 36 (ca - 0)), .val (.slice (some ⟨pb, ob, none⟩) 4292 cb), .val (.slice (some ⟨pb, ob + 0, none⟩) 36 (cb - 0)), .val (.bool true), .val (.bool true), .val (.bool true), .val (.slice pm n cm), .val (.slice ps m cs), .val (.bool true), .val (.bool false), .val (.bool false), .val (.slice (some ⟨pa, oa, none⟩) 4292 ca), .val (.slice (some ⟨pb, ob, none⟩) 4292 cb), .val (.bool true), .val (.bool true), .val (.bool true), .val (.bool true), .val (.int .i64 3), .val (.bool true), .val (.bool true), .val (.bool true), .val (.agg (u8s (List.replicate 32 0)).toArray), .val (.agg (u8s (List.replicate 32 0)).toArray), .val (.bool true), .val (.bool true)] rfl ?_
  have tok3 : True := trivial
  try go_frame
  repeat (first
    | (clear tok3; refine sp_callN (v := .bool true) (args := #[]) rfl rfl (by simp) Try.func14 (by kernel_rfl) (by kernel_rfl) (fun w' _ _ => hto.out w') ?_; try go_frame; have tok4 : True := trivial)
    | (clear tok4; refine sp_run (v := .slice (some ⟨pa, oa + 0, none⟩) 4 (ca - 0)) rfl (fun w' hw' _ => rn_part (l := 0) (h := 4) rfl rfl size_u8 rfl (by exact .no _) (by exact .yes rfl) (by omega) (by omega) gca rfl rfl) ?_; try go_frame; have tok5 : True := trivial)
    | (clear tok5; refine sp_callN (v := .bool true) (args := #[.slice (some ⟨pa, oa + 0, none⟩) 4 (ca - 0), .slice (some ⟨b18, 0, none⟩) 4 4]) rfl rfl (by simp [Act.eval]) Try.func19 (by kernel_rfl) (by kernel_rfl) (fun w' hw' _ => by obtain ⟨L', h3, h4⟩ := hmw.out w' hw'; exact hs4.out w' _ _ (by have h5 := (A7.out.mv h3 h4).part (l := 0) (m := 4) (d := ca - 0) hsgl.out.symm (by omega) (by omega) (by omega); rw [List.drop_zero] at h5; exact h5) (hcd.out w' hw')) ?_; try go_frame; have tok6 : True := trivial)
    | (clear tok6; refine sp_run (v := .slice (some ⟨pa, oa + 0, none⟩) 36 (ca - 0)) rfl (fun w' hw' _ => rn_part (l := 0) (h := 36) rfl rfl size_u8 rfl (by exact .no _) (by exact .yes rfl) (by omega) (by omega) gca rfl rfl) ?_; try go_frame; have tok7 : True := trivial)
    | (clear tok7; refine sp_run (v := .slice (some ⟨pb, ob + 0, none⟩) 36 (cb - 0)) rfl (fun w' hw' _ => rn_part (l := 0) (h := 36) rfl rfl size_u8 rfl (by exact .no _) (by exact .yes rfl) (by omega) (by omega) gcb rfl rfl) ?_; try go_frame; have tok8 : True := trivial)
    | (clear tok8; refine sp_callN (v := .bool true) (args := #[.slice (some ⟨pa, oa + 0, none⟩) 36 (ca - 0), .slice (some ⟨pb, ob + 0, none⟩) 36 (cb - 0)]) rfl rfl (by simp [Act.eval]) Try.func19 (by kernel_rfl) (by kernel_rfl) (fun w' hw' _ => by obtain ⟨L', h3, h4⟩ := hmw.out w' hw'; exact hs36.out w' _ _ (by have h5 := (A7.out.mv h3 h4).part (l := 0) (m := 36) (d := ca - 0) hsgl.out.symm (by omega) (by omega) (by omega); rw [List.drop_zero] at h5; exact h5) (by have h5 := (B7.out.mv h3 h4).part (l := 0) (m := 36) (d := cb - 0) hsol.out.symm (by omega) (by omega) (by omega); rw [List.drop_zero] at h5; exact h5)) ?_; try go_frame; have tok9 : True := trivial)
    | (clear tok9; refine sp_callN (v := .bool true) (args := #[.slice pm n cm, .slice ps m cs]) rfl rfl (by simp [Act.eval]) Try.func19 (by kernel_rfl) (by kernel_rfl) (fun w' hw' _ => by obtain ⟨L', h3, h4⟩ := hmw.out w' hw'; exact hsmo.out w' _ _ (M7.out.mv h3 h4) (S7.out.mv h3 h4)) ?_; try go_frame; have tok10 : True := trivial)
    | (clear tok10; refine sp_callN (v := .bool true) (args := #[.slice (some ⟨pa, oa, none⟩) 4292 ca, .slice (some ⟨pb, ob, none⟩) 4292 cb]) rfl rfl (by simp [Act.eval]) Try.func19 (by kernel_rfl) (by kernel_rfl) (fun w' hw' _ => by obtain ⟨L', h3, h4⟩ := hmw.out w' hw'; exact hsgo.out w' _ _ (A7.out.mv h3 h4) (B7.out.mv h3 h4)) ?_; try go_frame; have tok11 : True := trivial)
    | (clear tok11; refine sp_run (v := .agg (u8s (List.replicate 32 0)).toArray) rfl (fun w' hw' _ => rn_cells rfl rfl rfl rfl (by kernel_rfl) (fun j v hj => by rw [(H11.out.call0 hw').cell (.head _), Nat.zero_add]; exact hj)) ?_; try go_frame; have tok12 : True := trivial)
    | (refine sp_val (fun w' hw' hF => ?_) ⟨_, rfl, Nat.le_of_ble_eq_true rfl⟩ ?_
       · go_big_quiet_step (fail)
         exact rfl
       try go_frame))
  refine sp_nil ?_
  intro w12 hw' hF
  have h1 : Hid (Own w w12 []) := (HW.out.end0 (by simp; omega)).trans ((Own.transNew H10.out (H11.out.call0 hw') (by simp; omega) (by have := q5'.out; have := H10.out.size; simp; omega)))
  clear hw' hF
  simp only [List.drop_succ_cons, List.drop_zero]
  go_wp2_with fail
  go_ret
  exact ⟨rfl, h1.out⟩

set_option maxRecDepth 100000 in
set_option maxHeartbeats 8000000 in
theorem otsForms_2n (w : World) (id seed : List Int) (h16 : id.length = 16) (h32 : seed.length = 32) (q0 x0 : Int) (hwd0 : ∀ w, Calls Try.prog 20 #[.int .i64 x0] w fun e w' => e = .returned (.int .i64 2) ∧ Own w w' [])
    (pm ps : Option Addr) (n m cm cs : Nat) (msg oth : List Int) (hO : Old w (.slice pm n cm) msg) (hmb : IsBytes msg) (hn : n = msg.length) (hn5 : n ≤ 50) (hS : Old w (.slice ps m cs) oth) (hgb : IsBytes oth) (hmn : m = oth.length) (hm5 : m ≤ 50) (heq : ¬ msg = oth) :
    Calls Try.prog 9 #[.agg (u8s (id ++ seed)).toArray, .int .i64 q0, .int .i64 x0, .slice pm n cm, .slice ps m cs] w fun e w' => e = .returned (.bool true) ∧ Own w w' [] := by
  have H := Own.refl w
  have hsz := Lib.hid (size_idL h16)
  have hsz48 := Lib.hid (size_secretL h16 h32)
  have hto := Lib.hid otold_any
  have hOw := Lib.hid hO
  have hSw := Lib.hid hS
  have hwd := Lib.hid hwd0
  obtain ⟨q, hqe, hq⟩ := rem_wrap q0 32 (by omega) (by omega)
  have hq32 : q < 32 := by omega
  have hch : Hid (∀ w', Calls Try.prog 15 #[.int .i64 2] w' fun e w'' => e = .returned (.int .i64 133) ∧ Own w' w'' []) := fun w' => chains_any w' 2
  have hsig : Hid (∀ w' v, Old w' v msg → Calls Try.prog 16 #[.agg (u8s (id ++ seed)).toArray, .int .i64 q, .int .i64 2, v] w' fun e w'' => ∃ b off c, e = .returned (.tuple #[.slice (some ⟨b, off, none⟩) 4292 c, .int .i64 0]) ∧ 4292 ≤ c ∧ Old w'' (.slice (some ⟨b, off, none⟩) 4292 c) (sigOf id seed q 2 msg) ∧ Own w' w'' []) := fun w' v h => signQ_any w' id seed h16 h32 q 2 hq32 (by omega) v msg h hmb (by omega) rfl
  have hsig2 : Hid (∀ w' v, Old w' v oth → Calls Try.prog 16 #[.agg (u8s (id ++ seed)).toArray, .int .i64 q, .int .i64 2, v] w' fun e w'' => ∃ b off c, e = .returned (.tuple #[.slice (some ⟨b, off, none⟩) 4292 c, .int .i64 0]) ∧ 4292 ≤ c ∧ Old w'' (.slice (some ⟨b, off, none⟩) 4292 c) (sigOf id seed q 2 oth) ∧ Own w' w'' []) := fun w' v h => signQ_any w' id seed h16 h32 q 2 hq32 (by omega) v oth h hgb (by omega) rfl
  obtain ⟨sg, hsg⟩ : ∃ s, s = sigOf id seed q 2 msg := ⟨_, rfl⟩
  obtain ⟨so, hso⟩ : ∃ s, s = sigOf id seed q 2 oth := ⟨_, rfl⟩
  have hsgl : Hid (sg.length = 4292) := by show _ = _; rw [hsg, length_sigOf]; rfl
  have hsol : Hid (so.length = 4292) := by show _ = _; rw [hso, length_sigOf]; rfl
  have hsgb : Hid (IsBytes sg) := by rw [hsg]; exact isBytes_sigOf _ _ _ _ _
  have hsob : Hid (IsBytes so) := by rw [hso]; exact isBytes_sigOf _ _ _ _ _
  have hg4 : Hid (sg.take 4 = [0, 0, 0, 2]) := by show _ = _; rw [hsg, take4_sigOf]; kernel_rfl
  have hg36 : Hid (sg.take 36 = so.take 36) := by show _ = _; rw [hsg, hso, take36_sigOf, take36_sigOf]
  have hcan : Hid (∀ w' v u, Old w' v msg → Old w' u (sg.take 4291) → Calls Try.prog 18 #[.agg (u8s id).toArray, .int .i64 q, .int .i64 2, v, u] w' fun e w'' => e = .returned (.tuple #[.agg (u8s (List.replicate 32 0)).toArray, .int .i64 3]) ∧ Own w' w'' []) := fun w' v u h1 h2 => cand_len w' id q 2 hq32 (by omega) v u _ h2 (by rw [List.length_take, hsgl.out]; decide) (by rw [List.length_take, hsgl.out]; decide)
  have hs4 : Hid (∀ w' v u, Old w' v (sg.take 4) → BytesAt w' u [0, 0, 0, 2] → Calls Try.prog 19 #[v, u] w' fun e w'' => e = .returned (.bool true) ∧ Own w' w'' []) := fun w' v u h1 h2 => by
    have h := same_any w' v u _ _ h1.1 h2 (isBytes_take hsgb.out 4) (by rw [← hg4.out]; exact isBytes_take hsgb.out 4)
    rw [decide_eq_true hg4.out] at h
    exact h
  have hs36 : Hid (∀ w' v u, Old w' v (sg.take 36) → Old w' u (so.take 36) → Calls Try.prog 19 #[v, u] w' fun e w'' => e = .returned (.bool true) ∧ Own w' w'' []) := fun w' v u h1 h2 => by
    have h := same_any w' v u _ _ h1.1 h2.1 (isBytes_take hsgb.out 36) (isBytes_take hsob.out 36)
    rw [decide_eq_true hg36.out] at h
    exact h
  have hsmo : Hid (∀ w' v u, Old w' v msg → Old w' u oth → Calls Try.prog 19 #[v, u] w' fun e w'' => e = .returned (.bool false) ∧ Own w' w'' []) := fun w' v u h1 h2 => by
    have h := same_any w' v u _ _ h1.1 h2.1 hmb hgb
    rw [decide_eq_false heq] at h
    exact h
  simp only [← hsg, ← hso] at hsig hsig2
  have eZ1 : ∀ w, (Op.equalIn 10000 23 (.agg (u8s [0, 0, 0, 0, 0, 0, 0, 0, 0, 0, 0, 0, 0, 0, 0, 0, 0, 0, 0, 0, 0, 0, 0, 0, 0, 0, 0, 0, 0, 0, 0, 0]).toArray) (.agg (u8s [0, 0, 0, 0, 0, 0, 0, 0, 0, 0, 0, 0, 0, 0, 0, 0, 0, 0, 0, 0, 0, 0, 0, 0, 0, 0, 0, 0, 0, 0, 0, 0]).toArray)).run Try.prog w = .ok true w := fun w => by rw [eqHash w _ _ rfl rfl]; simp
  have eZ2 : ∀ w, (Op.equalIn 10000 23 (.agg (u8s [0, 0, 0, 0, 0, 0, 0, 0, 0, 0, 0, 0, 0, 0, 0, 0, 0, 0, 0, 0, 0, 0, 0, 0, 0, 0, 0, 0, 0, 0, 0, 0]).toArray) (.agg #[.int .u8 0, .int .u8 0, .int .u8 0, .int .u8 0, .int .u8 0, .int .u8 0, .int .u8 0, .int .u8 0, .int .u8 0, .int .u8 0, .int .u8 0, .int .u8 0, .int .u8 0, .int .u8 0, .int .u8 0, .int .u8 0, .int .u8 0, .int .u8 0, .int .u8 0, .int .u8 0, .int .u8 0, .int .u8 0, .int .u8 0, .int .u8 0, .int .u8 0, .int .u8 0, .int .u8 0, .int .u8 0, .int .u8 0, .int .u8 0, .int .u8 0, .int .u8 0])).run Try.prog w = .ok true w := fun w => eZ1 w
  clear hO hmb hn hS hgb hmn heq h16 h32 hwd0 hsg hso hq
  go_enter Try.func9, Try.ntmps9
  have tok1 : True := trivial
  go_wp2_with (first
    | (clear tok1; refine st_new rfl (rn_box (cs := u8s (id ++ seed)) H rfl rfl rfl) ?_; clear H; intro b5 w1 hb5 H; have tok2 : True := trivial)
    | (clear tok2; go_at_call 20; refine (hwd.out _).mono ?_; rintro e w2 ⟨rfl, h3⟩; have H2 := H.call0 h3; clear H h3; have H := H2; clear H2; have tok3 : True := trivial)
    | (clear tok3; refine st_val rfl (rn_loadAll (cs := u8s (id ++ seed)) H rfl rfl (.head _) rfl rfl hsz48.out) ?_; have tok4 : True := trivial)
    | (clear tok4; go_at_call 16; refine (hsig.out _ _ (hOw.out.mv H (by simp; omega))).mono ?_; rintro e w6 ⟨pa, oa, ca, rfl, gca, hA, h3⟩; have H2 := H.call0 h3; have A6 := Lib.hid hA; clear H h3 hA; have H := H2; clear H2; have tok5 : True := trivial)
    | (clear tok5; refine st_val rfl (rn_loadAll (cs := u8s (id ++ seed)) H rfl rfl (.head _) rfl rfl hsz48.out) ?_; have tok6 : True := trivial)
    | (clear tok6; go_at_call 16; refine (hsig2.out _ _ (hSw.out.mv H (by simp; omega))).mono ?_; rintro e w7 ⟨pb, ob, cb, rfl, gcb, hB, h3⟩; have A7 := Lib.hid (A6.out.mv h3 (by simp)); have B7 := Lib.hid hB; have H2 := H.call0 h3; have HW := Lib.hid H2; have M7 := Lib.hid (hOw.out.mv H2 (by simp; omega)); have S7 := Lib.hid (hSw.out.mv H2 (by simp; omega));
        have c5i := Lib.hid (fun (w' : World) (L : List Ent) (h : Own w7 w' L) (hn : ∀ k ∈ L.map (·.1), w7.heap.size ≤ k) => show ∀ j v, (u8s id)[j]? = some v → w'.cell? ⟨b5, 0 + j, none⟩ = some v from fun j v hj => h.old (HW.out.rowL (.head _) j v hj) (fun hm => by have := hn _ hm; have := HW.out.lt (.head _); omega));
        clear H H2 h3 hB A6; have H := Own.refl w7; have tok7 : True := trivial)
    | (clear tok7; go_at_call 15; refine (hch.out _).mono ?_; rintro e w8 ⟨rfl, h3⟩; have H2 := H.call0 h3; clear H h3; have H := H2; clear H2; have tok8 : True := trivial)
    | (clear tok8; refine st_new rfl (rn_buildSlice (e := 3) (cs := i64s [0, 1, 2, 0, 3]) H rfl (fun w' => by kernel_rfl)) ?_; clear H; intro b74 w9 hb74 H; have tok9 : True := trivial)
    | (clear tok9; refine st_val rfl (rn_load H rfl rfl (.head _) rfl rfl rfl) ?_; have tok10 : True := trivial)
    | (clear tok10; refine st_new rfl (rn_buildSlice (e := 5) (cs := u8s [0, 0, 0, 2]) H rfl (fun w' => by kernel_rfl)) ?_; clear H; intro b18 w10 hb18 H; have tok11 : True := trivial))
  have H10 := Lib.hid H
  have hmv : Hid (∀ w' L, Own w10 w' L → (∀ k ∈ L.map (·.1), w10.heap.size ≤ k) → ∃ L', Own w7 w' L' ∧ (∀ k ∈ L'.map (·.1), w7.heap.size ≤ k)) := fun w' L h hn => ⟨[], Own.transNew H10.out h (by simp; omega) (fun k hk => Nat.le_trans H10.out.size (hn k hk)), by simp⟩
  obtain ⟨B, hB⟩ : ∃ B, B = w10.heap.size := ⟨_, rfl⟩
  obtain ⟨St, hSt⟩ : ∃ St : Nat → Act → World → Prop, St = fun s a' w' => match s with
      | 0 => Own w10 w' []
      | _ => ∃ g, a'.tmps.getD 19 undef = .pointer (some ⟨g, 0, none⟩) ∧ B ≤ g ∧ Own w10 w' [(g, u8s (List.replicate 32 0), 23)] := ⟨_, rfl⟩
  have hSb : Hid (∀ w', (∃ s a', St s a' w') → ∃ L, Own w10 w' L ∧ ∀ k ∈ L.map (·.1), B ≤ k) := fun w' ⟨s, a', h⟩ => by
    rw [hSt] at h
    cases s with
    | zero => exact ⟨_, h, by simp⟩
    | succ s => obtain ⟨g, _, h2, h3⟩ := h; exact ⟨_, h3, by simpa using h2⟩
  have hS0 : Hid (∀ a' w', St 0 a' w' ↔ Own w10 w' []) := fun a' w' => by rw [hSt]; exact Iff.rfl
  have hS1 : Hid (∀ a' w', St 1 a' w' ↔ ∃ g, a'.tmps.getD 19 undef = .pointer (some ⟨g, 0, none⟩) ∧ B ≤ g ∧ Own w10 w' [(g, u8s (List.replicate 32 0), 23)]) := fun a' w' => by rw [hSt]; exact Iff.rfl
  have hSm : Hid (∀ s a' w1 w2, St s a' w1 → Own w1 w2 [] → St s a' w2) := fun s a' w1 w2 h1 h2 => by
    rw [hSt] at h1 ⊢
    cases s with
    | zero => exact Own.call0 h1 h2
    | succ s => obtain ⟨g, h3, h4, h5⟩ := h1; exact ⟨g, h3, h4, h5.call0 h2⟩
  have hSp : Hid (∀ s a' w' d v, (d ∉ [19] ∨ s ≤ 0) → St s a' w' → St s (a'.put (some d) v) w') := fun s a' w' d v hd h => by
    rw [hSt] at h ⊢
    cases s with
    | zero => exact h
    | succ s =>
      obtain ⟨g, h3, h4⟩ := h
      refine ⟨g, ?_, h4⟩
      have hne : d ≠ 19 := by
        rcases hd with hd | hd
        · simpa using hd
        · omega
      rw [← h3]
      show (a'.tmps.setIfInBounds d v).getD 19 undef = _
      simp [hne]
  clear hSt
  have hB' := Lib.hid hB
  clear hB H
  refine region_effF 15 (by kernel_rfl) (by kernel_rfl) (by kernel_rfl) [.val (.pointer (some ⟨b5, 0, none⟩)), .val (.agg (u8s id).toArray), .val (.int .i64 q), .val (.int .i64 2), .val (.slice pm n cm), .val (.slice (some ⟨pa, oa, none⟩) 4292 ca), .val (.int .i64 4292), .val (.int .i64 4291), .val (.slice (some ⟨pa, oa + 0, none⟩) 4291 (ca - 0)), .val (.tuple #[.agg (u8s (List.replicate 32 0)).toArray, .int .i64 3]), .val (.tuple #[.agg (u8s (List.replicate 32 0)).toArray, .int .i64 3]), .val (.agg (u8s (List.replicate 32 0)).toArray), .val (.int .i64 3), .rel (CellH B), .eff (HsE B) (fun _ _ => True)] rfl ?_ (by kernel_rfl) St ((hS0.out _ _).2 (Own.refl _)) hSm.out [19] 14 (fun s a' w' d v h1 h2 => hSp.out s a' w' d v h1 h2) (by kernel_rfl) ?_
  · simp only [eAll, eRow, Se.pres, or_true, true_and, and_true, implies_true]
    exact Or.inr (Or.inr CellH.pres)
  have tok3 : True := trivial
  try go_frame
  repeat (first
    | (clear tok3; refine sf_run (v := .agg (u8s id).toArray) rfl (fun w' hw' _ => rn_cells rfl rfl rfl rfl hsz.out (by obtain ⟨L, h1, h2⟩ := hSb.out w' hw'; obtain ⟨L', h3, h4⟩ := hmv.out _ _ h1 (fun k hk => by rw [← hB'.out]; exact h2 k hk); exact c5i.out _ _ h3 h4)) ?_; try go_frame; have tok4 : True := trivial)
    | (clear tok4; refine sf_run (v := .slice (some ⟨pa, oa + 0, none⟩) 4291 (ca - 0)) rfl (fun w' hw' _ => rn_part (l := 0) (h := 4291) rfl rfl size_u8 rfl (by exact .no _) (by exact .yes rfl) (by omega) (by omega) gca rfl rfl) ?_; try go_frame; have tok5 : True := trivial)
    | (clear tok5; refine sf_callN (v := .tuple #[.agg (u8s (List.replicate 32 0)).toArray, .int .i64 3]) (args := #[.agg (u8s id).toArray, .int .i64 q, .int .i64 2, .slice pm n cm, .slice (some ⟨pa, oa + 0, none⟩) 4291 (ca - 0)]) rfl rfl (by simp [Act.eval]) Try.func18 (by kernel_rfl) (by kernel_rfl) (fun w' hw' _ => by obtain ⟨L, h1, h2⟩ := hSb.out w' hw'; obtain ⟨L', h3, h4⟩ := hmv.out _ _ h1 (fun k hk => by rw [← hB'.out]; exact h2 k hk); exact hcan.out w' _ _ (M7.out.mv h3 h4) (by have h5 := (A7.out.mv h3 h4).part (l := 0) (m := 4291) (d := ca - 0) hsgl.out.symm (by omega) (by omega) (by omega); rw [List.drop_zero] at h5; exact h5)) ?_; try go_frame; have tok6 : True := trivial)
    | (clear tok6; refine sf_rel CellH.mono rfl (fun w' hw' hF => cellH_alloc rfl info_hash (by obtain ⟨L, h1, h2⟩ := hSb.out w' hw'; rw [hB'.out]; exact h1.size)) ?_
       intro v19; try go_frame; have tok7 : True := trivial)
    | (clear tok7; refine sf_store rfl rfl (fun a' w' hag hS hF => ?_) ?_
       · have q2 := (hS0.out a' w').1 hS
         obtain ⟨g, c0, e13, q5, q6, q7⟩ := hF.2 _ rfl (List.mem_of_elem_eq_true (by kernel_rfl))
         subst e13
         have hone : Own w' w' [(g, c0, 23)] := Own.one q7
         have hag13 : a'.tmps.getD 19 undef = .pointer (some ⟨g, 0, none⟩) := hag 19 (List.mem_of_elem_eq_true (by kernel_rfl))
         exact (rn_storeAll (vs := u8s (List.replicate 32 0)) hone rfl rfl rfl (by kernel_rfl) .head (by rw [q6]; kernel_rfl) (oneCell_ints _ _)).imp fun w'' h => ⟨h.1, ⟨g, c0, _, q5, q7, by kernel_rfl, h.2⟩, (hS1.out a' w'').2 ⟨g, hag13, q5, Own.adopt (q2.young h.2 (by rw [← hB'.out]; exact q5) (by simp)) (h.2.here _ _ _ (.head _)) (by simp)⟩⟩
       try go_frame)
    | (refine sf_val (fun w' hw' hF => ?_) ⟨_, rfl, Nat.le_of_ble_eq_true rfl⟩ ?_
       · go_big_quiet_step (fail)
         exact rfl
       try go_frame))
  refine sf_nil ?_
  intro w11 hS hF
  obtain ⟨g, e13, q5, q7⟩ := (hS1.out _ _).1 hS
  have e13' : v19 = .pointer (some ⟨g, 0, none⟩) := e13
  subst e13'
  have H11 := Lib.hid q7
  have q5' := Lib.hid (hB'.out ▸ q5)
  clear hS hF hSb hS0 hS1 hSm hSp St e13 q5 q7 hcan hB'
  simp only [List.drop_succ_cons, List.drop_zero]
  go_wp2_with fail
  have hmw : Hid (∀ w', Own w11 w' [] → ∃ L', Own w7 w' L' ∧ (∀ k ∈ L'.map (·.1), w7.heap.size ≤ k)) := fun w' h => hmv.out w' _ (H11.out.call0 h) (by have := q5'.out; simpa using this)
  have hcd : Hid (∀ w', Own w11 w' [] → BytesAt w' (.slice (some ⟨b18, 0, none⟩) 4 4) [0, 0, 0, 2]) := fun w' h => by
    have h1 : Own w10 w' [(g, u8s (List.replicate 32 0), 23)] := H11.out.call0 h
    have h2 : BytesAt w10 (.slice (some ⟨b18, 0, none⟩) 4 4) [0, 0, 0, 2] := Own.litM H10.out (.head _) rfl
    exact SlAt.own h2 h1 (fun k hk hm => by obtain rfl := (blk_some hk).1; have := H10.out.lt (.head _); have := q5'.out; simp at hm; omega)
  refine region_grow 34 (by kernel_rfl) (by kernel_rfl) (by kernel_rfl) [.val (.bool true), .val (.bool true), .val (.slice (some ⟨pa, oa, none⟩) 4292 ca), .val (.slice (some ⟨pa, oa + 0, none⟩) 4 (ca - 0)), .val (.slice (some ⟨b18, 0, none⟩) 4 4), .val (.bool true), .val (.bool true), .val (.bool true), .val (.slice (some ⟨pa, oa, none⟩) 4292 ca), .val (.slice (some ⟨pa, oa + 0, none⟩) 36 (ca - 0)), .val (.slice (some ⟨pb, ob, none⟩) 4292 cb), .val (.slice (some ⟨pb, ob + 0, none⟩) 36 (cb - 0)), .val (.bool true), .val (.bool true), .val (.bool true), .val (.slice pm n cm), .val (.slice ps m cs), .val (.bool false), .val (.bool true), .val (.bool true), .val undef, .val undef, .val undef, .val (.bool true), .val (.bool true), .val (.bool true), .val (.int .i64 3), .val (.bool true), .val (.bool true), .val (.bool true), .val (.agg (u8s (List.replicate 32 0)).toArray), .val (.agg (u8s (List.replicate 32 0)).toArray), .val (.bool true), .val (.bool true)] rfl ?_
  have tok3 : True := trivial
  try go_frame
  repeat (first
    | (clear tok3; refine sp_callN (v := .bool true) (args := #[]) rfl rfl (by simp) Try.func14 (by kernel_rfl) (by kernel_rfl) (fun w' _ _ => hto.out w') ?_; try go_frame; have tok4 : True := trivial)
    | (clear tok4; refine sp_run (v := .slice (some ⟨pa, oa + 0, none⟩) 4 (ca - 0)) rfl (fun w' hw' _ => rn_part (l := 0) (h := 4) rfl rfl size_u8 rfl (by exact .no _) (by exact .yes rfl) (by omega) (by omega) gca rfl rfl) ?_; try go_frame; have tok5 : True := trivial)
    | (clear tok5; refine sp_callN (v := .bool true) (args := #[.slice (some ⟨pa, oa + 0, none⟩) 4 (ca - 0), .slice (some ⟨b18, 0, none⟩) 4 4]) rfl rfl (by simp [Act.eval]) Try.func19 (by kernel_rfl) (by kernel_rfl) (fun w' hw' _ => by obtain ⟨L', h3, h4⟩ := hmw.out w' hw'; exact hs4.out w' _ _ (by have h5 := (A7.out.mv h3 h4).part (l := 0) (m := 4) (d := ca - 0) hsgl.out.symm (by omega) (by omega) (by omega); rw [List.drop_zero] at h5; exact h5) (hcd.out w' hw')) ?_; try go_frame; have tok6 : True := trivial)
    | (clear tok6; refine sp_run (v := .slice (some ⟨pa, oa + 0, none⟩) 36 (ca - 0)) rfl (fun w' hw' _ => rn_part (l := 0) (h := 36) rfl rfl size_u8 rfl (by exact .no _) (by exact .yes rfl) (by omega) (by omega) gca rfl rfl) ?_; try go_frame; have tok7 : True := trivial)
    | (clear tok7; refine sp_run (v := .slice (some ⟨pb, ob + 0, none⟩) 36 (cb - 0)) rfl (fun w' hw' _ => rn_part (l := 0) (h := 36) rfl rfl size_u8 rfl (by exact .no _) (by exact .yes rfl) (by omega) (by omega) gcb rfl rfl) ?_; try go_frame; have tok8 : True := trivial)
    | (clear tok8; refine sp_callN (v := .bool true) (args := #[.slice (some ⟨pa, oa + 0, none⟩) 36 (ca - 0), .slice (some ⟨pb, ob + 0, none⟩) 36 (cb - 0)]) rfl rfl (by simp [Act.eval]) Try.func19 (by kernel_rfl) (by kernel_rfl) (fun w' hw' _ => by obtain ⟨L', h3, h4⟩ := hmw.out w' hw'; exact hs36.out w' _ _ (by have h5 := (A7.out.mv h3 h4).part (l := 0) (m := 36) (d := ca - 0) hsgl.out.symm (by omega) (by omega) (by omega); rw [List.drop_zero] at h5; exact h5) (by have h5 := (B7.out.mv h3 h4).part (l := 0) (m := 36) (d := cb - 0) hsol.out.symm (by omega) (by omega) (by omega); rw [List.drop_zero] at h5; exact h5)) ?_; try go_frame; have tok9 : True := trivial)
    | (clear tok9; refine sp_callN (v := .bool false) (args := #[.slice pm n cm, .slice ps m cs]) rfl rfl (by simp [Act.eval]) Try.func19 (by kernel_rfl) (by kernel_rfl) (fun w' hw' _ => by obtain ⟨L', h3, h4⟩ := hmw.out w' hw'; exact hsmo.out w' _ _ (M7.out.mv h3 h4) (S7.out.mv h3 h4)) ?_; try go_frame; have tok10 : True := trivial)
    | (refine sp_skip rfl ?_; try go_frame)
    | (clear tok10; refine sp_run (v := .agg (u8s (List.replicate 32 0)).toArray) rfl (fun w' hw' _ => rn_cells rfl rfl rfl rfl (by kernel_rfl) (fun j v hj => by rw [(H11.out.call0 hw').cell (.head _), Nat.zero_add]; exact hj)) ?_; try go_frame; have tok12 : True := trivial)
    | (refine sp_val (fun w' hw' hF => ?_) ⟨_, rfl, Nat.le_of_ble_eq_true rfl⟩ ?_
       · go_big_quiet_step (fail)
         exact rfl
       try go_frame))
  refine sp_nil ?_
  intro w12 hw' hF
  have h1 : Hid (Own w w12 []) := (HW.out.end0 (by simp; omega)).trans ((Own.transNew H10.out (H11.out.call0 hw') (by simp; omega) (by have := q5'.out; have := H10.out.size; simp; omega)))
  clear hw' hF
  simp only [List.drop_succ_cons, List.drop_zero]
  go_wp2_with fail
  go_ret
  exact ⟨rfl, h1.out⟩

set_option maxRecDepth 100000 in
set_option maxHeartbeats 8000000 in
theorem otsForms_4e (w : World) (id seed : List Int) (h16 : id.length = 16) (h32 : seed.length = 32) (q0 x0 : Int) (hwd0 : ∀ w, Calls Try.prog 20 #[.int .i64 x0] w fun e w' => e = .returned (.int .i64 4) ∧ Own w w' [])
    (pm ps : Option Addr) (n m cm cs : Nat) (msg oth : List Int) (hO : Old w (.slice pm n cm) msg) (hmb : IsBytes msg) (hn : n = msg.length) (hn5 : n ≤ 50) (hS : Old w (.slice ps m cs) oth) (hgb : IsBytes oth) (hmn : m = oth.length) (hm5 : m ≤ 50) (heq : msg = oth) :
    Calls Try.prog 9 #[.agg (u8s (id ++ seed)).toArray, .int .i64 q0, .int .i64 x0, .slice pm n cm, .slice ps m cs] w fun e w' => e = .returned (.bool true) ∧ Own w w' [] := by
  have H := Own.refl w
  have hsz := Lib.hid (size_idL h16)
  have hsz48 := Lib.hid (size_secretL h16 h32)
  have hto := Lib.hid otold_any
  have hOw := Lib.hid hO
  have hSw := Lib.hid hS
  have hwd := Lib.hid hwd0
  obtain ⟨q, hqe, hq⟩ := rem_wrap q0 32 (by omega) (by omega)
  have hq32 : q < 32 := by omega
  have hch : Hid (∀ w', Calls Try.prog 15 #[.int .i64 4] w' fun e w'' => e = .returned (.int .i64 67) ∧ Own w' w'' []) := fun w' => chains_any w' 4
  have hsig : Hid (∀ w' v, Old w' v msg → Calls Try.prog 16 #[.agg (u8s (id ++ seed)).toArray, .int .i64 q, .int .i64 4, v] w' fun e w'' => ∃ b off c, e = .returned (.tuple #[.slice (some ⟨b, off, none⟩) 2180 c, .int .i64 0]) ∧ 2180 ≤ c ∧ Old w'' (.slice (some ⟨b, off, none⟩) 2180 c) (sigOf id seed q 4 msg) ∧ Own w' w'' []) := fun w' v h => signQ_any w' id seed h16 h32 q 4 hq32 (by omega) v msg h hmb (by omega) rfl
  have hsig2 : Hid (∀ w' v, Old w' v oth → Calls Try.prog 16 #[.agg (u8s (id ++ seed)).toArray, .int .i64 q, .int .i64 4, v] w' fun e w'' => ∃ b off c, e = .returned (.tuple #[.slice (some ⟨b, off, none⟩) 2180 c, .int .i64 0]) ∧ 2180 ≤ c ∧ Old w'' (.slice (some ⟨b, off, none⟩) 2180 c) (sigOf id seed q 4 oth) ∧ Own w' w'' []) := fun w' v h => signQ_any w' id seed h16 h32 q 4 hq32 (by omega) v oth h hgb (by omega) rfl
  obtain ⟨sg, hsg⟩ : ∃ s, s = sigOf id seed q 4 msg := ⟨_, rfl⟩
  obtain ⟨so, hso⟩ : ∃ s, s = sigOf id seed q 4 oth := ⟨_, rfl⟩
  have hsgl : Hid (sg.length = 2180) := by show _ = _; rw [hsg, length_sigOf]; rfl
  have hsol : Hid (so.length = 2180) := by show _ = _; rw [hso, length_sigOf]; rfl
  have hsgb : Hid (IsBytes sg) := by rw [hsg]; exact isBytes_sigOf _ _ _ _ _
  have hsob : Hid (IsBytes so) := by rw [hso]; exact isBytes_sigOf _ _ _ _ _
  have hg4 : Hid (sg.take 4 = [0, 0, 0, 3]) := by show _ = _; rw [hsg, take4_sigOf]; kernel_rfl
  have hg36 : Hid (sg.take 36 = so.take 36) := by show _ = _; rw [hsg, hso, take36_sigOf, take36_sigOf]
  have hcan : Hid (∀ w' v u, Old w' v msg → Old w' u (sg.take 2179) → Calls Try.prog 18 #[.agg (u8s id).toArray, .int .i64 q, .int .i64 4, v, u] w' fun e w'' => e = .returned (.tuple #[.agg (u8s (List.replicate 32 0)).toArray, .int .i64 3]) ∧ Own w' w'' []) := fun w' v u h1 h2 => cand_len w' id q 4 hq32 (by omega) v u _ h2 (by rw [List.length_take, hsgl.out]; decide) (by rw [List.length_take, hsgl.out]; decide)
  have hs4 : Hid (∀ w' v u, Old w' v (sg.take 4) → BytesAt w' u [0, 0, 0, 3] → Calls Try.prog 19 #[v, u] w' fun e w'' => e = .returned (.bool true) ∧ Own w' w'' []) := fun w' v u h1 h2 => by
    have h := same_any w' v u _ _ h1.1 h2 (isBytes_take hsgb.out 4) (by rw [← hg4.out]; exact isBytes_take hsgb.out 4)
    rw [decide_eq_true hg4.out] at h
    exact h
  have hs36 : Hid (∀ w' v u, Old w' v (sg.take 36) → Old w' u (so.take 36) → Calls Try.prog 19 #[v, u] w' fun e w'' => e = .returned (.bool true) ∧ Own w' w'' []) := fun w' v u h1 h2 => by
    have h := same_any w' v u _ _ h1.1 h2.1 (isBytes_take hsgb.out 36) (isBytes_take hsob.out 36)
    rw [decide_eq_true hg36.out] at h
    exact h
  have hsmo : Hid (∀ w' v u, Old w' v msg → Old w' u oth → Calls Try.prog 19 #[v, u] w' fun e w'' => e = .returned (.bool true) ∧ Own w' w'' []) := fun w' v u h1 h2 => by
    have h := same_any w' v u _ _ h1.1 h2.1 hmb hgb
    rw [decide_eq_true heq] at h
    exact h
  have hsgo : Hid (∀ w' v u, Old w' v sg → Old w' u so → Calls Try.prog 19 #[v, u] w' fun e w'' => e = .returned (.bool true) ∧ Own w' w'' []) := fun w' v u h1 h2 => by
    have h := same_any w' v u _ _ h1.1 h2.1 hsgb.out hsob.out
    rw [decide_eq_true (by rw [hsg, hso, heq])] at h
    exact h
  simp only [← hsg, ← hso] at hsig hsig2
  have eZ1 : ∀ w, (Op.equalIn 10000 23 (.agg (u8s [0, 0, 0, 0, 0, 0, 0, 0, 0, 0, 0, 0, 0, 0, 0, 0, 0, 0, 0, 0, 0, 0, 0, 0, 0, 0, 0, 0, 0, 0, 0, 0]).toArray) (.agg (u8s [0, 0, 0, 0, 0, 0, 0, 0, 0, 0, 0, 0, 0, 0, 0, 0, 0, 0, 0, 0, 0, 0, 0, 0, 0, 0, 0, 0, 0, 0, 0, 0]).toArray)).run Try.prog w = .ok true w := fun w => by rw [eqHash w _ _ rfl rfl]; simp
  have eZ2 : ∀ w, (Op.equalIn 10000 23 (.agg (u8s [0, 0, 0, 0, 0, 0, 0, 0, 0, 0, 0, 0, 0, 0, 0, 0, 0, 0, 0, 0, 0, 0, 0, 0, 0, 0, 0, 0, 0, 0, 0, 0]).toArray) (.agg #[.int .u8 0, .int .u8 0, .int .u8 0, .int .u8 0, .int .u8 0, .int .u8 0, .int .u8 0, .int .u8 0, .int .u8 0, .int .u8 0, .int .u8 0, .int .u8 0, .int .u8 0, .int .u8 0, .int .u8 0, .int .u8 0, .int .u8 0, .int .u8 0, .int .u8 0, .int .u8 0, .int .u8 0, .int .u8 0, .int .u8 0, .int .u8 0, .int .u8 0, .int .u8 0, .int .u8 0, .int .u8 0, .int .u8 0, .int .u8 0, .int .u8 0, .int .u8 0])).run Try.prog w = .ok true w := fun w => eZ1 w
  clear hO hmb hn hS hgb hmn heq h16 h32 hwd0 hsg hso hq
  go_enter Try.func9, Try.ntmps9
  have tok1 : True := trivial
  go_wp2_with (first
    | (clear tok1; refine st_new rfl (rn_box (cs := u8s (id ++ seed)) H rfl rfl rfl) ?_; clear H; intro b5 w1 hb5 H; have tok2 : True := trivial)
    | (clear tok2; go_at_call 20; refine (hwd.out _).mono ?_; rintro e w2 ⟨rfl, h3⟩; have H2 := H.call0 h3; clear H h3; have H := H2; clear H2; have tok3 : True := trivial)
    | (clear tok3; refine st_val rfl (rn_loadAll (cs := u8s (id ++ seed)) H rfl rfl (.head _) rfl rfl hsz48.out) ?_; have tok4 : True := trivial)
    | (clear tok4; go_at_call 16; refine (hsig.out _ _ (hOw.out.mv H (by simp; omega))).mono ?_; rintro e w6 ⟨pa, oa, ca, rfl, gca, hA, h3⟩; have H2 := H.call0 h3; have A6 := Lib.hid hA; clear H h3 hA; have H := H2; clear H2; have tok5 : True := trivial)
    | (clear tok5; refine st_val rfl (rn_loadAll (cs := u8s (id ++ seed)) H rfl rfl (.head _) rfl rfl hsz48.out) ?_; have tok6 : True := trivial)
    | (clear tok6; go_at_call 16; refine (hsig2.out _ _ (hSw.out.mv H (by simp; omega))).mono ?_; rintro e w7 ⟨pb, ob, cb, rfl, gcb, hB, h3⟩; have A7 := Lib.hid (A6.out.mv h3 (by simp)); have B7 := Lib.hid hB; have H2 := H.call0 h3; have HW := Lib.hid H2; have M7 := Lib.hid (hOw.out.mv H2 (by simp; omega)); have S7 := Lib.hid (hSw.out.mv H2 (by simp; omega));
        have c5i := Lib.hid (fun (w' : World) (L : List Ent) (h : Own w7 w' L) (hn : ∀ k ∈ L.map (·.1), w7.heap.size ≤ k) => show ∀ j v, (u8s id)[j]? = some v → w'.cell? ⟨b5, 0 + j, none⟩ = some v from fun j v hj => h.old (HW.out.rowL (.head _) j v hj) (fun hm => by have := hn _ hm; have := HW.out.lt (.head _); omega));
        clear H H2 h3 hB A6; have H := Own.refl w7; have tok7 : True := trivial)
    | (clear tok7; go_at_call 15; refine (hch.out _).mono ?_; rintro e w8 ⟨rfl, h3⟩; have H2 := H.call0 h3; clear H h3; have H := H2; clear H2; have tok8 : True := trivial)
    | (clear tok8; refine st_new rfl (rn_buildSlice (e := 3) (cs := i64s [0, 1, 2, 0, 3]) H rfl (fun w' => by kernel_rfl)) ?_; clear H; intro b74 w9 hb74 H; have tok9 : True := trivial)
    | (clear tok9; refine st_val rfl (rn_load H rfl rfl (.head _) rfl rfl rfl) ?_; have tok10 : True := trivial)
    | (clear tok10; refine st_new rfl (rn_buildSlice (e := 5) (cs := u8s [0, 0, 0, 3]) H rfl (fun w' => by kernel_rfl)) ?_; clear H; intro b18 w10 hb18 H; have tok11 : True := trivial))
  have H10 := Lib.hid H
  have hmv : Hid (∀ w' L, Own w10 w' L → (∀ k ∈ L.map (·.1), w10.heap.size ≤ k) → ∃ L', Own w7 w' L' ∧ (∀ k ∈ L'.map (·.1), w7.heap.size ≤ k)) := fun w' L h hn => ⟨[], Own.transNew H10.out h (by simp; omega) (fun k hk => Nat.le_trans H10.out.size (hn k hk)), by simp⟩
  obtain ⟨B, hB⟩ : ∃ B, B = w10.heap.size := ⟨_, rfl⟩
  obtain ⟨St, hSt⟩ : ∃ St : Nat → Act → World → Prop, St = fun s a' w' => match s with
      | 0 => Own w10 w' []
      | _ => ∃ g, a'.tmps.getD 19 undef = .pointer (some ⟨g, 0, none⟩) ∧ B ≤ g ∧ Own w10 w' [(g, u8s (List.replicate 32 0), 23)] := ⟨_, rfl⟩
  have hSb : Hid (∀ w', (∃ s a', St s a' w') → ∃ L, Own w10 w' L ∧ ∀ k ∈ L.map (·.1), B ≤ k) := fun w' ⟨s, a', h⟩ => by
    rw [hSt] at h
    cases s with
    | zero => exact ⟨_, h, by simp⟩
    | succ s => obtain ⟨g, _, h2, h3⟩ := h; exact ⟨_, h3, by simpa using h2⟩
  have hS0 : Hid (∀ a' w', St 0 a' w' ↔ Own w10 w' []) := fun a' w' => by rw [hSt]; exact Iff.rfl
  have hS1 : Hid (∀ a' w', St 1 a' w' ↔ ∃ g, a'.tmps.getD 19 undef = .pointer (some ⟨g, 0, none⟩) ∧ B ≤ g ∧ Own w10 w' [(g, u8s (List.replicate 32 0), 23)]) := fun a' w' => by rw [hSt]; exact Iff.rfl
  have hSm : Hid (∀ s a' w1 w2, St s a' w1 → Own w1 w2 [] → St s a' w2) := fun s a' w1 w2 h1 h2 => by
    rw [hSt] at h1 ⊢
    cases s with
    | zero => exact Own.call0 h1 h2
    | succ s => obtain ⟨g, h3, h4, h5⟩ := h1; exact ⟨g, h3, h4, h5.call0 h2⟩
  have hSp : Hid (∀ s a' w' d v, (d ∉ [19] ∨ s ≤ 0) → St s a' w' → St s (a'.put (some d) v) w') := fun s a' w' d v hd h => by
    rw [hSt] at h ⊢
    cases s with
    | zero => exact h
    | succ s =>
      obtain ⟨g, h3, h4⟩ := h
      refine ⟨g, ?_, h4⟩
      have hne : d ≠ 19 := by
        rcases hd with hd | hd
        · simpa using hd
        · omega
      rw [← h3]
      show (a'.tmps.setIfInBounds d v).getD 19 undef = _
      simp [hne]
  clear hSt
  have hB' := Lib.hid hB
  clear hB H
  refine region_effF 15 (by kernel_rfl) (by kernel_rfl) (by kernel_rfl) [.val (.pointer (some ⟨b5, 0, none⟩)), .val (.agg (u8s id).toArray), .val (.int .i64 q), .val (.int .i64 4), .val (.slice pm n cm), .val (.slice (some ⟨pa, oa, none⟩) 2180 ca), .val (.int .i64 2180), .val (.int .i64 2179), .val (.slice (some ⟨pa, oa + 0, none⟩) 2179 (ca - 0)), .val (.tuple #[.agg (u8s (List.replicate 32 0)).toArray, .int .i64 3]), .val (.tuple #[.agg (u8s (List.replicate 32 0)).toArray, .int .i64 3]), .val (.agg (u8s (List.replicate 32 0)).toArray), .val (.int .i64 3), .rel (CellH B), .eff (HsE B) (fun _ _ => True)] rfl ?_ (by kernel_rfl) St ((hS0.out _ _).2 (Own.refl _)) hSm.out [19] 14 (fun s a' w' d v h1 h2 => hSp.out s a' w' d v h1 h2) (by kernel_rfl) ?_
  · simp only [eAll, eRow, Se.pres, or_true, true_and, and_true, implies_true]
    exact Or.inr (Or.inr CellH.pres)
  have tok3 : True := trivial
  try go_frame
  repeat (first
    | (clear tok3; refine sf_run (v := .agg (u8s id).toArray) rfl (fun w' hw' _ => rn_cells rfl rfl rfl rfl hsz.out (by obtain ⟨L, h1, h2⟩ := hSb.out w' hw'; obtain ⟨L', h3, h4⟩ := hmv.out _ _ h1 (fun k hk => by rw [← hB'.out]; exact h2 k hk); exact c5i.out _ _ h3 h4)) ?_; try go_frame; have tok4 : True := trivial)
    | (clear tok4; refine sf_run (v := .slice (some ⟨pa, oa + 0, none⟩) 2179 (ca - 0)) rfl (fun w' hw' _ => rn_part (l := 0) (h := 2179) rfl rfl size_u8 rfl (by exact .no _) (by exact .yes rfl) (by omega) (by omega) gca rfl rfl) ?_; try go_frame; have tok5 : True := trivial)
    | (clear tok5; refine sf_callN (v := .tuple #[.agg (u8s (List.replicate 32 0)).toArray, .int .i64 3]) (args := #[.agg (u8s id).toArray, .int .i64 q, .int .i64 4, .slice pm n cm, .slice (some ⟨pa, oa + 0, none⟩) 2179 (ca - 0)]) rfl rfl (by simp [Act.eval]) Try.func18 (by kernel_rfl) (by kernel_rfl) (fun w' hw' _ => by obtain ⟨L, h1, h2⟩ := hSb.out w' hw'; obtain ⟨L', h3, h4⟩ := hmv.out _ _ h1 (fun k hk => by rw [← hB'.out]; exact h2 k hk); exact hcan.out w' _ _ (M7.out.mv h3 h4) (by have h5 := (A7.out.mv h3 h4).part (l := 0) (m := 2179) (d := ca - 0) hsgl.out.symm (by omega) (by omega) (by omega); rw [List.drop_zero] at h5; exact h5)) ?_; try go_frame; have tok6 : True := trivial)
    | (clear tok6; refine sf_rel CellH.mono rfl (fun w' hw' hF => cellH_alloc rfl info_hash (by obtain ⟨L, h1, h2⟩ := hSb.out w' hw'; rw [hB'.out]; exact h1.size)) ?_
       intro v19; try go_frame; have tok7 : True := trivial)
    | (clear tok7; refine sf_store rfl rfl (fun a' w' hag hS hF => ?_) ?_
       · have q2 := (hS0.out a' w').1 hS
         obtain ⟨g, c0, e13, q5, q6, q7⟩ := hF.2 _ rfl (List.mem_of_elem_eq_true (by kernel_rfl))
         subst e13
         have hone : Own w' w' [(g, c0, 23)] := Own.one q7
         have hag13 : a'.tmps.getD 19 undef = .pointer (some ⟨g, 0, none⟩) := hag 19 (List.mem_of_elem_eq_true (by kernel_rfl))
         exact (rn_storeAll (vs := u8s (List.replicate 32 0)) hone rfl rfl rfl (by kernel_rfl) .head (by rw [q6]; kernel_rfl) (oneCell_ints _ _)).imp fun w'' h => ⟨h.1, ⟨g, c0, _, q5, q7, by kernel_rfl, h.2⟩, (hS1.out a' w'').2 ⟨g, hag13, q5, Own.adopt (q2.young h.2 (by rw [← hB'.out]; exact q5) (by simp)) (h.2.here _ _ _ (.head _)) (by simp)⟩⟩
       try go_frame)
    | (refine sf_val (fun w' hw' hF => ?_) ⟨_, rfl, Nat.le_of_ble_eq_true rfl⟩ ?_
       · go_big_quiet_step (fail)
         exact rfl
       try go_frame))
  refine sf_nil ?_
  intro w11 hS hF
  obtain ⟨g, e13, q5, q7⟩ := (hS1.out _ _).1 hS
  have e13' : v19 = .pointer (some ⟨g, 0, none⟩) := e13
  subst e13'
  have H11 := Lib.hid q7
  have q5' := Lib.hid (hB'.out ▸ q5)
  clear hS hF hSb hS0 hS1 hSm hSp St e13 q5 q7 hcan hB'
  simp only [List.drop_succ_cons, List.drop_zero]
  go_wp2_with fail
  have hmw : Hid (∀ w', Own w11 w' [] → ∃ L', Own w7 w' L' ∧ (∀ k ∈ L'.map (·.1), w7.heap.size ≤ k)) := fun w' h => hmv.out w' _ (H11.out.call0 h) (by have := q5'.out; simpa using this)
  have hcd : Hid (∀ w', Own w11 w' [] → BytesAt w' (.slice (some ⟨b18, 0, none⟩) 4 4) [0, 0, 0, 3]) := fun w' h => by
    have h1 : Own w10 w' [(g, u8s (List.replicate 32 0), 23)] := H11.out.call0 h
    have h2 : BytesAt w10 (.slice (some ⟨b18, 0, none⟩) 4 4) [0, 0, 0, 3] := Own.litM H10.out (.head _) rfl
    exact SlAt.own h2 h1 (fun k hk hm => by obtain rfl := (blk_some hk).1; have := H10.out.lt (.head _); have := q5'.out; simp at hm; omega)
  refine region_grow 34 (by kernel_rfl) (by kernel_rfl) (by kernel_rfl) [.val (.bool true), .val (.bool true), .val (.slice (some ⟨pa, oa, none⟩) 2180 ca), .val (.slice (some ⟨pa, oa + 0, none⟩) 4 (ca - 0)), .val (.slice (some ⟨b18, 0, none⟩) 4 4), .val (.bool true), .val (.bool true), .val (.bool true), .val (.slice (some ⟨pa, oa, none⟩) 2180 ca), .val (.slice (some ⟨pa, oa + 0, none⟩) 36 (ca - 0)), .val (.slice (some ⟨pb, ob, none⟩) 2180 cb), .val (.slice (some ⟨pb, ob + 0, none⟩) 36 (cb - 0)), .val (.bool true), .val (.bool true), .val (.bool true), .val (.slice pm n cm), .val (.slice ps m cs), .val (.bool true), .val (.bool false), .val (.bool false), .val (.slice (some ⟨pa, oa, none⟩) 2180 ca), .val (.slice (some ⟨pb, ob, none⟩) 2180 cb), .val (.bool true), .val (.bool true), .val (.bool true), .val (.bool true), .val (.int .i64 3), .val (.bool true), .val (.bool true), .val (.bool true), .val (.agg (u8s (List.replicate 32 0)).toArray), .val (.agg (u8s (List.replicate 32 0)).toArray), .val (.bool true), .val (.bool true)] rfl ?_
  have tok3 : True := trivial
  try go_frame
  repeat (first
    | (clear tok3; refine sp_callN (v := .bool true) (args := #[]) rfl rfl (by simp) Try.func14 (by kernel_rfl) (by kernel_rfl) (fun w' _ _ => hto.out w') ?_; try go_frame; have tok4 : True := trivial)
    | (clear tok4; refine sp_run (v := .slice (some ⟨pa, oa + 0, none⟩) 4 (ca - 0)) rfl (fun w' hw' _ => rn_part (l := 0) (h := 4) rfl rfl size_u8 rfl (by exact .no _) (by exact .yes rfl) (by omega) (by omega) gca rfl rfl) ?_; try go_frame; have tok5 : True := trivial)
    | (clear tok5; refine sp_callN (v := .bool true) (args := #[.slice (some ⟨pa, oa + 0, none⟩) 4 (ca - 0), .slice (some ⟨b18, 0, none⟩) 4 4]) rfl rfl (by simp [Act.eval]) Try.func19 (by kernel_rfl) (by kernel_rfl) (fun w' hw' _ => by obtain ⟨L', h3, h4⟩ := hmw.out w' hw'; exact hs4.out w' _ _ (by have h5 := (A7.out.mv h3 h4).part (l := 0) (m := 4) (d := ca - 0) hsgl.out.symm (by omega) (by omega) (by omega); rw [List.drop_zero] at h5; exact h5) (hcd.out w' hw')) ?_; try go_frame; have tok6 : True := trivial)
    | (clear tok6; refine sp_run (v := .slice (some ⟨pa, oa + 0, none⟩) 36 (ca - 0)) rfl (fun w' hw' _ => rn_part (l := 0) (h := 36) rfl rfl size_u8 rfl (by exact .no _) (by exact .yes rfl) (by omega) (by omega) gca rfl rfl) ?_; try go_frame; have tok7 : True := trivial)
    | (clear tok7; refine sp_run (v := .slice (some ⟨pb, ob + 0, none⟩) 36 (cb - 0)) rfl (fun w' hw' _ => rn_part (l := 0) (h := 36) rfl rfl size_u8 rfl (by exact .no _) (by exact .yes rfl) (by omega) (by omega) gcb rfl rfl) ?_; try go_frame; have tok8 : True := trivial)
    | (clear tok8; refine sp_callN (v := .bool true) (args := #[.slice (some ⟨pa, oa + 0, none⟩) 36 (ca - 0), .slice (some ⟨pb, ob + 0, none⟩) 36 (cb - 0)]) rfl rfl (by simp [Act.eval]) Try.func19 (by kernel_rfl) (by kernel_rfl) (fun w' hw' _ => by obtain ⟨L', h3, h4⟩ := hmw.out w' hw'; exact hs36.out w' _ _ (by have h5 := (A7.out.mv h3 h4).part (l := 0) (m := 36) (d := ca - 0) hsgl.out.symm (by omega) (by omega) (by omega); rw [List.drop_zero] at h5; exact h5) (by have h5 := (B7.out.mv h3 h4).part (l := 0) (m := 36) (d := cb - 0) hsol.out.symm (by omega) (by omega) (by omega); rw [List.drop_zero] at h5; exact h5)) ?_; try go_frame; have tok9 : True := trivial)
    | (clear tok9; refine sp_callN (v := .bool true) (args := #[.slice pm n cm, .slice ps m cs]) rfl rfl (by simp [Act.eval]) Try.func19 (by kernel_rfl) (by kernel_rfl) (fun w' hw' _ => by obtain ⟨L', h3, h4⟩ := hmw.out w' hw'; exact hsmo.out w' _ _ (M7.out.mv h3 h4) (S7.out.mv h3 h4)) ?_; try go_frame; have tok10 : True := trivial)
    | (clear tok10; refine sp_callN (v := .bool true) (args := #[.slice (some ⟨pa, oa, none⟩) 2180 ca, .slice (some ⟨pb, ob, none⟩) 2180 cb]) rfl rfl (by simp [Act.eval]) Try.func19 (by kernel_rfl) (by kernel_rfl) (fun w' hw' _ => by obtain ⟨L', h3, h4⟩ := hmw.out w' hw'; exact hsgo.out w' _ _ (A7.out.mv h3 h4) (B7.out.mv h3 h4)) ?_; try go_frame; have tok11 : True := trivial)
    | (clear tok11; refine sp_run (v := .agg (u8s (List.replicate 32 0)).toArray) rfl (fun w' hw' _ => rn_cells rfl rfl rfl rfl (by kernel_rfl) (fun j v hj => by rw [(H11.out.call0 hw').cell (.head _), Nat.zero_add]; exact hj)) ?_; try go_frame; have tok12 : True := trivial)
    | (refine sp_val (fun w' hw' hF => ?_) ⟨_, rfl, Nat.le_of_ble_eq_true rfl⟩ ?_
       · go_big_quiet_step (fail)
         exact rfl
       try go_frame))
  refine sp_nil ?_
  intro w12 hw' hF
  have h1 : Hid (Own w w12 []) := (HW.out.end0 (by simp; omega)).trans ((Own.transNew H10.out (H11.out.call0 hw') (by simp; omega) (by have := q5'.out; have := H10.out.size; simp; omega)))
  clear hw' hF
  simp only [List.drop_succ_cons, List.drop_zero]
  go_wp2_with fail
  go_ret
  exact ⟨rfl, h1.out⟩

set_option maxRecDepth 100000 in
set_option maxHeartbeats 8000000 in
theorem otsForms_4n (w : World) (id seed : List Int) (h16 : id.length = 16) (h32 : seed.length = 32) (q0 x0 : Int) (hwd0 : ∀ w, Calls Try.prog 20 #[.int .i64 x0] w fun e w' => e = .returned (.int .i64 4) ∧ Own w w' [])
    (pm ps : Option Addr) (n m cm cs : Nat) (msg oth : List Int) (hO : Old w (.slice pm n cm) msg) (hmb : IsBytes msg) (hn : n = msg.length) (hn5 : n ≤ 50) (hS : Old w (.slice ps m cs) oth) (hgb : IsBytes oth) (hmn : m = oth.length) (hm5 : m ≤ 50) (heq : ¬ msg = oth) :
    Calls Try.prog 9 #[.agg (u8s (id ++ seed)).toArray, .int .i64 q0, .int .i64 x0, .slice pm n cm, .slice ps m cs] w fun e w' => e = .returned (.bool true) ∧ Own w w' [] := by
  have H := Own.refl w
  have hsz := Lib.hid (size_idL h16)
  have hsz48 := Lib.hid (size_secretL h16 h32)
  have hto := Lib.hid otold_any
  have hOw := Lib.hid hO
  have hSw := Lib.hid hS
  have hwd := Lib.hid hwd0
  obtain ⟨q, hqe, hq⟩ := rem_wrap q0 32 (by omega) (by omega)
  have hq32 : q < 32 := by omega
  have hch : Hid (∀ w', Calls Try.prog 15 #[.int .i64 4] w' fun e w'' => e = .returned (.int .i64 67) ∧ Own w' w'' []) := fun w' => chains_any w' 4
  have hsig : Hid (∀ w' v, Old w' v msg → Calls Try.prog 16 #[.agg (u8s (id ++ seed)).toArray, .int .i64 q, .int .i64 4, v] w' fun e w'' => ∃ b off c, e = .returned (.tuple #[.slice (some ⟨b, off, none⟩) 2180 c, .int .i64 0]) ∧ 2180 ≤ c ∧ Old w'' (.slice (some ⟨b, off, none⟩) 2180 c) (sigOf id seed q 4 msg) ∧ Own w' w'' []) := fun w' v h => signQ_any w' id seed h16 h32 q 4 hq32 (by omega) v msg h hmb (by omega) rfl
  have hsig2 : Hid (∀ w' v, Old w' v oth → Calls Try.prog 16 #[.agg (u8s (id ++ seed)).toArray, .int .i64 q, .int .i64 4, v] w' fun e w'' => ∃ b off c, e = .returned (.tuple #[.slice (some ⟨b, off, none⟩) 2180 c, .int .i64 0]) ∧ 2180 ≤ c ∧ Old w'' (.slice (some ⟨b, off, none⟩) 2180 c) (sigOf id seed q 4 oth) ∧ Own w' w'' []) := fun w' v h => signQ_any w' id seed h16 h32 q 4 hq32 (by omega) v oth h hgb (by omega) rfl
  obtain ⟨sg, hsg⟩ : ∃ s, s = sigOf id seed q 4 msg := ⟨_, rfl⟩
  obtain ⟨so, hso⟩ : ∃ s, s = sigOf id seed q 4 oth := ⟨_, rfl⟩
  have hsgl : Hid (sg.length = 2180) := by show _ = _; rw [hsg, length_sigOf]; rfl
  have hsol : Hid (so.length = 2180) := by show _ = _; rw [hso, length_sigOf]; rfl
  have hsgb : Hid (IsBytes sg) := by rw [hsg]; exact isBytes_sigOf _ _ _ _ _
  have hsob : Hid (IsBytes so) := by rw [hso]; exact isBytes_sigOf _ _ _ _ _
  have hg4 : Hid (sg.take 4 = [0, 0, 0, 3]) := by show _ = _; rw [hsg, take4_sigOf]; kernel_rfl
  have hg36 : Hid (sg.take 36 = so.take 36) := by show _ = _; rw [hsg, hso, take36_sigOf, take36_sigOf]
  have hcan : Hid (∀ w' v u, Old w' v msg → Old w' u (sg.take 2179) → Calls Try.prog 18 #[.agg (u8s id).toArray, .int .i64 q, .int .i64 4, v, u] w' fun e w'' => e = .returned (.tuple #[.agg (u8s (List.replicate 32 0)).toArray, .int .i64 3]) ∧ Own w' w'' []) := fun w' v u h1 h2 => cand_len w' id q 4 hq32 (by omega) v u _ h2 (by rw [List.length_take, hsgl.out]; decide) (by rw [List.length_take, hsgl.out]; decide)
  have hs4 : Hid (∀ w' v u, Old w' v (sg.take 4) → BytesAt w' u [0, 0, 0, 3] → Calls Try.prog 19 #[v, u] w' fun e w'' => e = .returned (.bool true) ∧ Own w' w'' []) := fun w' v u h1 h2 => by
    have h := same_any w' v u _ _ h1.1 h2 (isBytes_take hsgb.out 4) (by rw [← hg4.out]; exact isBytes_take hsgb.out 4)
    rw [decide_eq_true hg4.out] at h
    exact h
  have hs36 : Hid (∀ w' v u, Old w' v (sg.take 36) → Old w' u (so.take 36) → Calls Try.prog 19 #[v, u] w' fun e w'' => e = .returned (.bool true) ∧ Own w' w'' []) := fun w' v u h1 h2 => by
    have h := same_any w' v u _ _ h1.1 h2.1 (isBytes_take hsgb.out 36) (isBytes_take hsob.out 36)
    rw [decide_eq_true hg36.out] at h
    exact h
  have hsmo : Hid (∀ w' v u, Old w' v msg → Old w' u oth → Calls Try.prog 19 #[v, u] w' fun e w'' => e = .returned (.bool false) ∧ Own w' w'' []) := fun w' v u h1 h2 => by
    have h := same_any w' v u _ _ h1.1 h2.1 hmb hgb
    rw [decide_eq_false heq] at h
    exact h
  simp only [← hsg, ← hso] at hsig hsig2
  have eZ1 : ∀ w, (Op.equalIn 10000 23 (.agg (u8s [0, 0, 0, 0, 0, 0, 0, 0, 0, 0, 0, 0, 0, 0, 0, 0, 0, 0, 0, 0, 0, 0, 0, 0, 0, 0, 0, 0, 0, 0, 0, 0]).toArray) (.agg (u8s [0, 0, 0, 0, 0, 0, 0, 0, 0, 0, 0, 0, 0, 0, 0, 0, 0, 0, 0, 0, 0, 0, 0, 0, 0, 0, 0, 0, 0, 0, 0, 0]).toArray)).run Try.prog w = .ok true w := fun w => by rw [eqHash w _ _ rfl rfl]; simp
  have eZ2 : ∀ w, (Op.equalIn 10000 23 (.agg (u8s [0, 0, 0, 0, 0, 0, 0, 0, 0, 0, 0, 0, 0, 0, 0, 0, 0, 0, 0, 0, 0, 0, 0, 0, 0, 0, 0, 0, 0, 0, 0, 0]).toArray) (.agg #[.int .u8 0, .int .u8 0, .int .u8 0, .int .u8 0, .int .u8 0, .int .u8 0, .int .u8 0, .int .u8 0, .int .u8 0, .int .u8 0, .int .u8 0, .int .u8 0, .int .u8 0, .int .u8 0, .int .u8 0, .int .u8 0, .int .u8 0, .int .u8 0, .int .u8 0, .int .u8 0, .int .u8 0, .int .u8 0, .int .u8 0, .int .u8 0, .int .u8 0, .int .u8 0, .int .u8 0, .int .u8 0, .int .u8 0, .int .u8 0, .int .u8 0, .int .u8 0])).run Try.prog w = .ok true w := fun w => eZ1 w
  clear hO hmb hn hS hgb hmn heq h16 h32 hwd0 hsg hso hq
  go_enter Try.func9, Try.ntmps9
  have tok1 : True := trivial
  go_wp2_with (first
    | (clear tok1; refine st_new rfl (rn_box (cs := u8s (id ++ seed)) H rfl rfl rfl) ?_; clear H; intro b5 w1 hb5 H; have tok2 : True := trivial)
    | (clear tok2; go_at_call 20; refine (hwd.out _).mono ?_; rintro e w2 ⟨rfl, h3⟩; have H2 := H.call0 h3; clear H h3; have H := H2; clear H2; have tok3 : True := trivial)
    | (clear tok3; refine st_val rfl (rn_loadAll (cs := u8s (id ++ seed)) H rfl rfl (.head _) rfl rfl hsz48.out) ?_; have tok4 : True := trivial)
    | (clear tok4; go_at_call 16; refine (hsig.out _ _ (hOw.out.mv H (by simp; omega))).mono ?_; rintro e w6 ⟨pa, oa, ca, rfl, gca, hA, h3⟩; have H2 := H.call0 h3; have A6 := Lib.hid hA; clear H h3 hA; have H := H2; clear H2; have tok5 : True := trivial)
    | (clear tok5; refine st_val rfl (rn_loadAll (cs := u8s (id ++ seed)) H rfl rfl (.head _) rfl rfl hsz48.out) ?_; have tok6 : True := trivial)
    | (clear tok6; go_at_call 16; refine (hsig2.out _ _ (hSw.out.mv H (by simp; omega))).mono ?_; rintro e w7 ⟨pb, ob, cb, rfl, gcb, hB, h3⟩; have A7 := Lib.hid (A6.out.mv h3 (by simp)); have B7 := Lib.hid hB; have H2 := H.call0 h3; have HW := Lib.hid H2; have M7 := Lib.hid (hOw.out.mv H2 (by simp; omega)); have S7 := Lib.hid (hSw.out.mv H2 (by simp; omega));
        have c5i := Lib.hid (fun (w' : World) (L : List Ent) (h : Own w7 w' L) (hn : ∀ k ∈ L.map (·.1), w7.heap.size ≤ k) => show ∀ j v, (u8s id)[j]? = some v → w'.cell? ⟨b5, 0 + j, none⟩ = some v from fun j v hj => h.old (HW.out.rowL (.head _) j v hj) (fun hm => by have := hn _ hm; have := HW.out.lt (.head _); omega));
        clear H H2 h3 hB A6; have H := Own.refl w7; have tok7 : True := trivial)
    | (clear tok7; go_at_call 15; refine (hch.out _).mono ?_; rintro e w8 ⟨rfl, h3⟩; have H2 := H.call0 h3; clear H h3; have H := H2; clear H2; have tok8 : True := trivial)
    | (clear tok8; refine st_new rfl (rn_buildSlice (e := 3) (cs := i64s [0, 1, 2, 0, 3]) H rfl (fun w' => by kernel_rfl)) ?_; clear H; intro b74 w9 hb74 H; have tok9 : True := trivial)
    | (clear tok9; refine st_val rfl (rn_load H rfl rfl (.head _) rfl rfl rfl) ?_; have tok10 : True := trivial)
    | (clear tok10; refine st_new rfl (rn_buildSlice (e := 5) (cs := u8s [0, 0, 0, 3]) H rfl (fun w' => by kernel_rfl)) ?_; clear H; intro b18 w10 hb18 H; have tok11 : True := trivial))
  have H10 := Lib.hid H
  have hmv : Hid (∀ w' L, Own w10 w' L → (∀ k ∈ L.map (·.1), w10.heap.size ≤ k) → ∃ L', Own w7 w' L' ∧ (∀ k ∈ L'.map (·.1), w7.heap.size ≤ k)) := fun w' L h hn => ⟨[], Own.transNew H10.out h (by simp; omega) (fun k hk => Nat.le_trans H10.out.size (hn k hk)), by simp⟩
  obtain ⟨B, hB⟩ : ∃ B, B = w10.heap.size := ⟨_, rfl⟩
  obtain ⟨St, hSt⟩ : ∃ St : Nat → Act → World → Prop, St = fun s a' w' => match s with
      | 0 => Own w10 w' []
      | _ => ∃ g, a'.tmps.getD 19 undef = .pointer (some ⟨g, 0, none⟩) ∧ B ≤ g ∧ Own w10 w' [(g, u8s (List.replicate 32 0), 23)] := ⟨_, rfl⟩
  have hSb : Hid (∀ w', (∃ s a', St s a' w') → ∃ L, Own w10 w' L ∧ ∀ k ∈ L.map (·.1), B ≤ k) := fun w' ⟨s, a', h⟩ => by
    rw [hSt] at h
    cases s with
    | zero => exact ⟨_, h, by simp⟩
    | succ s => obtain ⟨g, _, h2, h3⟩ := h; exact ⟨_, h3, by simpa using h2⟩
  have hS0 : Hid (∀ a' w', St 0 a' w' ↔ Own w10 w' []) := fun a' w' => by rw [hSt]; exact Iff.rfl
  have hS1 : Hid (∀ a' w', St 1 a' w' ↔ ∃ g, a'.tmps.getD 19 undef = .pointer (some ⟨g, 0, none⟩) ∧ B ≤ g ∧ Own w10 w' [(g, u8s (List.replicate 32 0), 23)]) := fun a' w' => by rw [hSt]; exact Iff.rfl
  have hSm : Hid (∀ s a' w1 w2, St s a' w1 → Own w1 w2 [] → St s a' w2) := fun s a' w1 w2 h1 h2 => by
    rw [hSt] at h1 ⊢
    cases s with
    | zero => exact Own.call0 h1 h2
    | succ s => obtain ⟨g, h3, h4, h5⟩ := h1; exact ⟨g, h3, h4, h5.call0 h2⟩
  have hSp : Hid (∀ s a' w' d v, (d ∉ [19] ∨ s ≤ 0) → St s a' w' → St s (a'.put (some d) v) w') := fun s a' w' d v hd h => by
    rw [hSt] at h ⊢
    cases s with
    | zero => exact h
    | succ s =>
      obtain ⟨g, h3, h4⟩ := h
      refine ⟨g, ?_, h4⟩
      have hne : d ≠ 19 := by
        rcases hd with hd | hd
        · simpa using hd
        · omega
      rw [← h3]
      show (a'.tmps.setIfInBounds d v).getD 19 undef = _
      simp [hne]
  clear hSt
  have hB' := Lib.hid hB
  clear hB H
  refine region_effF 15 (by kernel_rfl) (by kernel_rfl) (by kernel_rfl) [.val (.pointer (some ⟨b5, 0, none⟩)), .val (.agg (u8s id).toArray), .val (.int .i64 q), .val (.int .i64 4), .val (.slice pm n cm), .val (.slice (some ⟨pa, oa, none⟩) 2180 ca), .val (.int .i64 2180), .val (.int .i64 2179), .val (.slice (some ⟨pa, oa + 0, none⟩) 2179 (ca - 0)), .val (.tuple #[.agg (u8s (List.replicate 32 0)).toArray, .int .i64 3]), .val (.tuple #[.agg (u8s (List.replicate 32 0)).toArray, .int .i64 3]), .val (.agg (u8s (List.replicate 32 0)).toArray), .val (.int .i64 3), .rel (CellH B), .eff (HsE B) (fun _ _ => True)] rfl ?_ (by kernel_rfl) St ((hS0.out _ _).2 (Own.refl _)) hSm.out [19] 14 (fun s a' w' d v h1 h2 => hSp.out s a' w' d v h1 h2) (by kernel_rfl) ?_
  · simp only [eAll, eRow, Se.pres, or_true, true_and, and_true, implies_true]
    exact Or.inr (Or.inr CellH.pres)
  have tok3 : True := trivial
  try go_frame
  repeat (first
    | (clear tok3; refine sf_run (v := .agg (u8s id).toArray) rfl (fun w' hw' _ => rn_cells rfl rfl rfl rfl hsz.out (by obtain ⟨L, h1, h2⟩ := hSb.out w' hw'; obtain ⟨L', h3, h4⟩ := hmv.out _ _ h1 (fun k hk => by rw [← hB'.out]; exact h2 k hk); exact c5i.out _ _ h3 h4)) ?_; try go_frame; have tok4 : True := trivial)
    | (clear tok4; refine sf_run (v := .slice (some ⟨pa, oa + 0, none⟩) 2179 (ca - 0)) rfl (fun w' hw' _ => rn_part (l := 0) (h := 2179) rfl rfl size_u8 rfl (by exact .no _) (by exact .yes rfl) (by omega) (by omega) gca rfl rfl) ?_; try go_frame; have tok5 : True := trivial)
    | (clear tok5; refine sf_callN (v := .tuple #[.agg (u8s (List.replicate 32 0)).toArray, .int .i64 3]) (args := #[.agg (u8s id).toArray, .int .i64 q, .int .i64 4, .slice pm n cm, .slice (some ⟨pa, oa + 0, none⟩) 2179 (ca - 0)]) rfl rfl (by simp [Act.eval]) Try.func18 (by kernel_rfl) (by kernel_rfl) (fun w' hw' _ => by obtain ⟨L, h1, h2⟩ := hSb.out w' hw'; obtain ⟨L', h3, h4⟩ := hmv.out _ _ h1 (fun k hk => by rw [← hB'.out]; exact h2 k hk); exact hcan.out w' _ _ (M7.out.mv h3 h4) (by have h5 := (A7.out.mv h3 h4).part (l := 0) (m := 2179) (d := ca - 0) hsgl.out.symm (by omega) (by omega) (by omega); rw [List.drop_zero] at h5; exact h5)) ?_; try go_frame; have tok6 : True := trivial)
    | (clear tok6; refine sf_rel CellH.mono rfl (fun w' hw' hF => cellH_alloc rfl info_hash (by obtain ⟨L, h1, h2⟩ := hSb.out w' hw'; rw [hB'.out]; exact h1.size)) ?_
       intro v19; try go_frame; have tok7 : True := trivial)
    | (clear tok7; refine sf_store rfl rfl (fun a' w' hag hS hF => ?_) ?_
       · have q2 := (hS0.out a' w').1 hS
         obtain ⟨g, c0, e13, q5, q6, q7⟩ := hF.2 _ rfl (List.mem_of_elem_eq_true (by kernel_rfl))
         subst e13
         have hone : Own w' w' [(g, c0, 23)] := Own.one q7
         have hag13 : a'.tmps.getD 19 undef = .pointer (some ⟨g, 0, none⟩) := hag 19 (List.mem_of_elem_eq_true (by kernel_rfl))
         exact (rn_storeAll (vs := u8s (List.replicate 32 0)) hone rfl rfl rfl (by kernel_rfl) .head (by rw [q6]; kernel_rfl) (oneCell_ints _ _)).imp fun w'' h => ⟨h.1, ⟨g, c0, _, q5, q7, by kernel_rfl, h.2⟩, (hS1.out a' w'').2 ⟨g, hag13, q5, Own.adopt (q2.young h.2 (by rw [← hB'.out]; exact q5) (by simp)) (h.2.here _ _ _ (.head _)) (by simp)⟩⟩
       try go_frame)
    | (refine sf_val (fun w' hw' hF => ?_) ⟨_, rfl, Nat.le_of_ble_eq_true rfl⟩ ?_
       · go_big_quiet_step (fail)
         exact rfl
       try go_frame))
  refine sf_nil ?_
  intro w11 hS hF
  obtain ⟨g, e13, q5, q7⟩ := (hS1.out _ _).1 hS
  have e13' : v19 = .pointer (some ⟨g, 0, none⟩) := e13
  subst e13'
  have H11 := Lib.hid q7
  have q5' := Lib.hid (hB'.out ▸ q5)
  clear hS hF hSb hS0 hS1 hSm hSp St e13 q5 q7 hcan hB'
  simp only [List.drop_succ_cons, List.drop_zero]
  go_wp2_with fail
  have hmw : Hid (∀ w', Own w11 w' [] → ∃ L', Own w7 w' L' ∧ (∀ k ∈ L'.map (·.1), w7.heap.size ≤ k)) := fun w' h => hmv.out w' _ (H11.out.call0 h) (by have := q5'.out; simpa using this)
  have hcd : Hid (∀ w', Own w11 w' [] → BytesAt w' (.slice (some ⟨b18, 0, none⟩) 4 4) [0, 0, 0, 3]) := fun w' h => by
    have h1 : Own w10 w' [(g, u8s (List.replicate 32 0), 23)] := H11.out.call0 h
    have h2 : BytesAt w10 (.slice (some ⟨b18, 0, none⟩) 4 4) [0, 0, 0, 3] := Own.litM H10.out (.head _) rfl
    exact SlAt.own h2 h1 (fun k hk hm => by obtain rfl := (blk_some hk).1; have := H10.out.lt (.head _); have := q5'.out; simp at hm; omega)
  refine region_grow 34 (by kernel_rfl) (by kernel_rfl) (by kernel_rfl) [.val (.bool true), .val (.bool true), .val (.slice (some ⟨pa, oa, none⟩) 2180 ca), .val (.slice (some ⟨pa, oa + 0, none⟩) 4 (ca - 0)), .val (.slice (some ⟨b18, 0, none⟩) 4 4), .val (.bool true), .val (.bool true), .val (.bool true), .val (.slice (some ⟨pa, oa, none⟩) 2180 ca), .val (.slice (some ⟨pa, oa + 0, none⟩) 36 (ca - 0)), .val (.slice (some ⟨pb, ob, none⟩) 2180 cb), .val (.slice (some ⟨pb, ob + 0, none⟩) 36 (cb - 0)), .val (.bool true), .val (.bool true), .val (.bool true), .val (.slice pm n cm), .val (.slice ps m cs), .val (.bool false), .val (.bool true), .val (.bool true), .val undef, .val undef, .val undef, .val (.bool true), .val (.bool true), .val (.bool true), .val (.int .i64 3), .val (.bool true), .val (.bool true), .val (.bool true), .val (.agg (u8s (List.replicate 32 0)).toArray), .val (.agg (u8s (List.replicate 32 0)).toArray), .val (.bool true), .val (.bool true)] rfl ?_
  have tok3 : True := trivial
  try go_frame
  repeat (first
    | (clear tok3; refine sp_callN (v := .bool true) (args := #[]) rfl rfl (by simp) Try.func14 (by kernel_rfl) (by kernel_rfl) (fun w' _ _ => hto.out w') ?_; try go_frame; have tok4 : True := trivial)
    | (clear tok4; refine sp_run (v := .slice (some ⟨pa, oa + 0, none⟩) 4 (ca - 0)) rfl (fun w' hw' _ => rn_part (l := 0) (h := 4) rfl rfl size_u8 rfl (by exact .no _) (by exact .yes rfl) (by omega) (by omega) gca rfl rfl) ?_; try go_frame; have tok5 : True := trivial)
    | (clear tok5; refine sp_callN (v := .bool true) (args := #[.slice (some ⟨pa, oa + 0, none⟩) 4 (ca - 0), .slice (some ⟨b18, 0, none⟩) 4 4]) rfl rfl (by simp [Act.eval]) Try.func19 (by kernel_rfl) (by kernel_rfl) (fun w' hw' _ => by obtain ⟨L', h3, h4⟩ := hmw.out w' hw'; exact hs4.out w' _ _ (by have h5 := (A7.out.mv h3 h4).part (l := 0) (m := 4) (d := ca - 0) hsgl.out.symm (by omega) (by omega) (by omega); rw [List.drop_zero] at h5; exact h5) (hcd.out w' hw')) ?_; try go_frame; have tok6 : True := trivial)
    | (clear tok6; refine sp_run (v := .slice (some ⟨pa, oa + 0, none⟩) 36 (ca - 0)) rfl (fun w' hw' _ => rn_part (l := 0) (h := 36) rfl rfl size_u8 rfl (by exact .no _) (by exact .yes rfl) (by omega) (by omega) gca rfl rfl) ?_; try go_frame; have tok7 : True := trivial)
    | (clear tok7; refine sp_run (v := .slice (some ⟨pb, ob + 0, none⟩) 36 (cb - 0)) rfl (fun w' hw' _ => rn_part (l := 0) (h := 36) rfl rfl size_u8 rfl (by exact .no _) (by exact .yes rfl) (by omega) (by omega) gcb rfl rfl) ?_; try go_frame; have tok8 : True := trivial)
    | (clear tok8; refine sp_callN (v := .bool true) (args := #[.slice (some ⟨pa, oa + 0, none⟩) 36 (ca - 0), .slice (some ⟨pb, ob + 0, none⟩) 36 (cb - 0)]) rfl rfl (by simp [Act.eval]) Try.func19 (by kernel_rfl) (by kernel_rfl) (fun w' hw' _ => by obtain ⟨L', h3, h4⟩ := hmw.out w' hw'; exact hs36.out w' _ _ (by have h5 := (A7.out.mv h3 h4).part (l := 0) (m := 36) (d := ca - 0) hsgl.out.symm (by omega) (by omega) (by omega); rw [List.drop_zero] at h5; exact h5) (by have h5 := (B7.out.mv h3 h4).part (l := 0) (m := 36) (d := cb - 0) hsol.out.symm (by omega) (by omega) (by omega); rw [List.drop_zero] at h5; exact h5)) ?_; try go_frame; have tok9 : True := trivial)
    | (clear tok9; refine sp_callN (v := .bool false) (args := #[.slice pm n cm, .slice ps m cs]) rfl rfl (by simp [Act.eval]) Try.func19 (by kernel_rfl) (by kernel_rfl) (fun w' hw' _ => by obtain ⟨L', h3, h4⟩ := hmw.out w' hw'; exact hsmo.out w' _ _ (M7.out.mv h3 h4) (S7.out.mv h3 h4)) ?_; try go_frame; have tok10 : True := trivial)
    | (refine sp_skip rfl ?_; try go_frame)
    | (clear tok10; refine sp_run (v := .agg (u8s (List.replicate 32 0)).toArray) rfl (fun w' hw' _ => rn_cells rfl rfl rfl rfl (by kernel_rfl) (fun j v hj => by rw [(H11.out.call0 hw').cell (.head _), Nat.zero_add]; exact hj)) ?_; try go_frame; have tok12 : True := trivial)
    | (refine sp_val (fun w' hw' hF => ?_) ⟨_, rfl, Nat.le_of_ble_eq_true rfl⟩ ?_
       · go_big_quiet_step (fail)
         exact rfl
       try go_frame))
  refine sp_nil ?_
  intro w12 hw' hF
  have h1 : Hid (Own w w12 []) := (HW.out.end0 (by simp; omega)).trans ((Own.transNew H10.out (H11.out.call0 hw') (by simp; omega) (by have := q5'.out; have := H10.out.size; simp; omega)))
  clear hw' hF
  simp only [List.drop_succ_cons, List.drop_zero]
  go_wp2_with fail
  go_ret
  exact ⟨rfl, h1.out⟩

set_option maxRecDepth 100000 in
set_option maxHeartbeats 8000000 in
theorem otsForms_row (w : World) (ss : List Int) (h48 : ss.length = 48) (_ : ∀ i, i < ss.length → 0 ≤ ss[i]?.getD 0 ∧ ss[i]?.getD 0 < 256) (q0 : Int) (_ : IntKind.i64.min ≤ q0) (_ : q0 ≤ IntKind.i64.max) (x0 : Int) (_ : IntKind.i64.min ≤ x0) (_ : x0 ≤ IntKind.i64.max)
    (mv : Value) (msg : List Int) (hm : BytesAt w mv msg) (hml : ∀ k, blk mv = some k → k < w.heap.size) (hmb : ∀ i, i < msg.length → 0 ≤ msg[i]?.getD 0 ∧ msg[i]?.getD 0 < 256)
    (sv : Value) (oth : List Int) (hs : BytesAt w sv oth) (hsl : ∀ k, blk sv = some k → k < w.heap.size) (hgb : ∀ i, i < oth.length → 0 ≤ oth[i]?.getD 0 ∧ oth[i]?.getD 0 < 256) :
    Calls Try.prog 9 #[.agg (u8s ss).toArray, .int .i64 q0, .int .i64 x0, mv, sv] w fun e w' => e = .returned (.bool true) ∧ Own w w' [] := by
  rename_i q1 q2 q3 q4 q5
  clear q1 q2 q3 q4 q5
  have H := Own.refl w
  have hO : Old w mv msg := ⟨hm, hml⟩
  have hS : Old w sv oth := ⟨hs, hsl⟩
  obtain ⟨pm, cm, rfl⟩ := hO.shape
  obtain ⟨ps, cs, rfl⟩ := hS.shape
  obtain ⟨n, hn⟩ : ∃ n, n = msg.length := ⟨_, rfl⟩
  obtain ⟨m, hmn⟩ : ∃ n, n = oth.length := ⟨_, rfl⟩
  rw [← hn] at hO ⊢
  rw [← hmn] at hS ⊢
  obtain ⟨id, seed, rfl, h16, h32⟩ := split48 h48
  have hto := Lib.hid otold_any
  by_cases hbig : 50 < n
  · clear hm hml hmb hO hn h48 h16 h32 hs hsl hgb hS hmn
    go_enter Try.func9, Try.ntmps9
    have tok1 : True := trivial
    go_wp2_with (first
      | (clear tok1; refine st_new rfl (rn_box (cs := u8s (id ++ seed)) H rfl rfl rfl) ?_; clear H; intro b5 w1 hb5 H; have tok2 : True := trivial)
      | (go_at_call 14; refine (hto.out _).mono ?_; rintro e w2 ⟨rfl, h3⟩; have H2 := H.call0 h3; clear H h3; have H := H2; clear H2))
    have h1 := Lib.hid (H.end0 (by simpa using hb5))
    go_ret
    exact ⟨rfl, h1.out⟩
  by_cases hbig2 : 50 < m
  · have hbig' : n ≤ 50 := by omega
    clear hm hml hmb hO hn h48 h16 h32 hs hsl hgb hS hmn hbig
    go_enter Try.func9, Try.ntmps9
    have tok1 : True := trivial
    go_wp2_with (first
      | (clear tok1; refine st_new rfl (rn_box (cs := u8s (id ++ seed)) H rfl rfl rfl) ?_; clear H; intro b5 w1 hb5 H; have tok2 : True := trivial)
      | (go_at_call 14; refine (hto.out _).mono ?_; rintro e w2 ⟨rfl, h3⟩; have H2 := H.call0 h3; clear H h3; have H := H2; clear H2))
    have h1 := Lib.hid (H.end0 (by simpa using hb5))
    go_ret
    exact ⟨rfl, h1.out⟩
  · have hn5 : n ≤ 50 := by omega
    have hm5 : m ≤ 50 := by omega
    obtain ⟨k, hk3, hwd⟩ := wide_any x0
    by_cases heq : msg = oth
    · rcases hk3 with rfl | rfl | rfl
      · exact otsForms_1e w id seed h16 h32 q0 x0 hwd pm ps n m cm cs msg oth hO hmb hn hn5 hS hgb hmn hm5 heq
      · exact otsForms_2e w id seed h16 h32 q0 x0 hwd pm ps n m cm cs msg oth hO hmb hn hn5 hS hgb hmn hm5 heq
      · exact otsForms_4e w id seed h16 h32 q0 x0 hwd pm ps n m cm cs msg oth hO hmb hn hn5 hS hgb hmn hm5 heq
    · rcases hk3 with rfl | rfl | rfl
      · exact otsForms_1n w id seed h16 h32 q0 x0 hwd pm ps n m cm cs msg oth hO hmb hn hn5 hS hgb hmn hm5 heq
      · exact otsForms_2n w id seed h16 h32 q0 x0 hwd pm ps n m cm cs msg oth hO hmb hn hn5 hS hgb hmn hm5 heq
      · exact otsForms_4n w id seed h16 h32 q0 x0 hwd pm ps n m cm cs msg oth hO hmb hn hn5 hS hgb hmn hm5 heq

end Go.Proofs.Ytokichlmgepdpaa
