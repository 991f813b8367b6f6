/- chirographlaw15.KeyOnce: the walk. -/
import Derived.Test.YtfihlmnbonnekaaKEnds
import Derived.Test.YtfihlmnbonnekaaInts
namespace Go.Proofs.Ytfihlmnbonnekaa
open Go.RowKit

theorem info_bools : ((Try.prog.info? 48).bind (·.zero)).map (fun z => z.cells.toList) = some (List.replicate 32 (.bool false)) := by kernel_rfl
theorem once_cells (id sd : List Int) (k q : Nat) (hq : q < 32) (msg : List Int) : (u8s (lsigOf id sd k q msg))[0]? = some (.int .u8 0) ∧ (u8s (lsigOf id sd k q msg))[1]? = some (.int .u8 0) ∧ (u8s (lsigOf id sd k q msg))[2]? = some (.int .u8 0) ∧ (u8s (lsigOf id sd k q msg))[3]? = some (.int .u8 (q : Int)) := by
  rw [lsig_eq, numB_small q hq]
  exact ⟨rfl, rfl, rfl, rfl⟩
theorem y_range (x : Int) : 0 ≤ wrap64 ((IntKind.u64.wrap ((IntKind.u64.wrap x).tdiv 4)).tmod 3) ∧ wrap64 ((IntKind.u64.wrap ((IntKind.u64.wrap x).tdiv 4)).tmod 3) < 3 := by
  have h0 := wrap_u64_nonneg ((IntKind.u64.wrap x).tdiv 4)
  generalize IntKind.u64.wrap ((IntKind.u64.wrap x).tdiv 4) = y at h0
  rw [Int.tmod_eq_emod_of_nonneg h0]
  unfold wrap64
  omega
theorem size_bool : (Try.prog.info? 4).map (·.size) = some 1 := by kernel_rfl
theorem Own.subl2 {w : World} {L : List Ent} {a b : Ent} (h : Own w w (a :: b :: L)) : Own w w [a, b] := ⟨rfl, rfl, rfl, Nat.le_refl _, fun _ _ _ => rfl, by have := h.nodup; simp at this ⊢; exact this.1.1, fun b cs T hm => h.here b cs T (by simp at hm ⊢; rcases hm with hm | hm <;> simp [hm])⟩
theorem perm_22 {α : Type} (a b c d x y : α) : List.Perm [a, b, c, d, x, y] [c, d, a, b, x, y] :=
  (List.perm_append_comm (l₁ := [a, b]) (l₂ := [c, d])).append_right [x, y]
/-- a signer that a call has made, with a code that all went right -/
def NewK (B : Nat) (u : Int) (T0 : List Value) : World → Value → Prop := fun w v => ∃ kb tb, v = .tuple #[.pointer (some ⟨kb, 0, none⟩), .int .i64 0] ∧ B ≤ kb ∧ B ≤ tb ∧ kb ≠ tb ∧ w.heap[kb]? = some (.cells (sgC tb u u).toArray 74 (0, 0)) ∧ w.heap[tb]? = some (.cells T0.toArray 104 (0, 0))
def NewP (B : Nat) (u : Int) (T0 : List Value) : World → Value → Prop := fun w v => ∃ kb tb, v = .pointer (some ⟨kb, 0, none⟩) ∧ B ≤ kb ∧ B ≤ tb ∧ kb ≠ tb ∧ w.heap[kb]? = some (.cells (sgC tb u u).toArray 74 (0, 0)) ∧ w.heap[tb]? = some (.cells T0.toArray 104 (0, 0))
theorem heap_mv {w w' : World} (h : Own w w' []) {b : Nat} {x : Obj} (hx : w.heap[b]? = some x) : w'.heap[b]? = some x := by
  rw [h.keep b (Array.getElem?_eq_some_iff.1 hx).1 (by simp)]; exact hx
theorem NewK.mono (B : Nat) (u : Int) (T0 : List Value) : Mono (NewK B u T0) := fun _ _ _ h ⟨kb, tb, h1, h2, h3, h4, h5, h6⟩ => ⟨kb, tb, h1, h2, h3, h4, heap_mv h h5, heap_mv h h6⟩
theorem NewP.mono (B : Nat) (u : Int) (T0 : List Value) : Mono (NewP B u T0) := fun _ _ _ h ⟨kb, tb, h1, h2, h3, h4, h5, h6⟩ => ⟨kb, tb, h1, h2, h3, h4, heap_mv h h5, heap_mv h h6⟩
set_option maxRecDepth 100000 in
set_option maxHeartbeats 8000000 in
theorem keyOnce_row (w : World) (s0 : Int) (_ : IntKind.i64.min ≤ s0) (_ : s0 ≤ IntKind.i64.max) (lv : Value) (xs : List Int) (O : OldI w lv xs) :
    Calls Try.prog 5 #[.int .i64 s0, lv] w fun e w' => e = .returned (.bool true) ∧ Own w w' [] := by
  rename_i q1 q2
  clear q1 q2
  have H := Own.refl w
  have hto := Lib.hid ktold_any
  obtain ⟨id, sd, h16, h32, hidb, hsdb, hsec⟩ := secret13_any s0 1
  have hsec := Lib.hid hsec
  have h48 : (id ++ sd).length = 48 := by rw [List.length_append, h16, h32]
  have hsz48 := Lib.hid (size_secretL h16 h32)
  have hnw : Hid (∀ w' (u : Int), 0 ≤ u → u ≤ 32 → Calls Try.prog 11 #[.agg (u8s (id ++ sd)).toArray, .int .i64 2, .int .i64 u] w' fun e w'' => ∃ kb tb, e = .returned (.tuple #[.pointer (some ⟨kb, 0, none⟩), .int .i64 0]) ∧ w'.heap.size ≤ kb ∧ w'.heap.size ≤ tb ∧ Own w' w'' [(kb, sgC tb u u, 74), (tb, treeG (id ++ sd) 2 0 0 (List.replicate 2048 0) 0, 104)]) := fun w' u h1 h2 => knew_any w' _ h48 2 (by omega) u h1 h2
  have hsg : Hid (∀ w' kb tb (n r : Int) cs mv msg, 0 ≤ n → n < 32 → n < r → IsTree id sd 2 cs → Old w' mv msg → IsBytes msg → msg.length ≤ 90000 → Own w' w' [(kb, sgC tb n r, 74), (tb, cs, 104)] → (∀ k, blk mv = some k → k ≠ kb) → (∀ k, blk mv = some k → k ≠ tb) → Calls Try.prog 14 #[.pointer (some ⟨kb, 0, none⟩), mv] w' fun e w'' => ∃ g c, e = .returned (.tuple #[.slice (some ⟨g, 0, none⟩) 4460 c, .int .i64 0]) ∧ 4460 ≤ c ∧ w'.heap.size ≤ g ∧ g < w''.heap.size ∧ BufS w'.heap.size (lsigOf id sd 2 n.toNat msg) w'' (.slice (some ⟨g, 0, none⟩) 4460 c) ∧ Own w' w'' [(kb, sgC tb (n + 1) r, 74), (tb, fullT id sd 2, 104)]) :=
    fun w' kb tb n r cs mv msg h1 h2 h3 h4 h5 h6 h7 h8 h9 h10 => ksign_any w' kb tb n r h1 h2 h3 id sd h16 h32 2 (by omega) cs h4 mv msg h5 h6 h7 h8 h9 h10 rfl
  obtain ⟨IT, hIT⟩ : ∃ I, I = IsTree id sd 2 := ⟨_, rfl⟩
  obtain ⟨SG, hSG⟩ : ∃ s, s = lsigOf id sd 2 := ⟨_, rfl⟩
  obtain ⟨FT, hFT⟩ : ∃ s, s = fullT id sd 2 := ⟨_, rfl⟩
  obtain ⟨T0, hT0⟩ : ∃ s, s = treeG (id ++ sd) 2 0 0 (List.replicate 2048 0) 0 := ⟨_, rfl⟩
  have hi0 : Hid (IT T0) := by show IT T0; rw [hIT, hT0]; exact Or.inl rfl
  have hi1 : Hid (IT FT) := by show IT FT; rw [hIT, hFT]; exact Or.inr rfl
  have hs3 : Hid (∀ q msg, q < 32 → (u8s (lsigOf id sd 2 q msg))[0]? = some (.int .u8 0) ∧ (u8s (lsigOf id sd 2 q msg))[1]? = some (.int .u8 0) ∧ (u8s (lsigOf id sd 2 q msg))[2]? = some (.int .u8 0) ∧ (u8s (lsigOf id sd 2 q msg))[3]? = some (.int .u8 (q : Int))) := fun q msg hq => once_cells id sd 2 q hq msg
  rw [← hT0] at hnw
  rw [← hIT, ← hSG, ← hFT] at hsg
  rw [← hSG] at hs3
  obtain ⟨pl, nl, cl, rfl⟩ : ∃ p n c, lv = .slice p n c := by
    rcases O.sl with ⟨⟨p, rfl⟩, _, _⟩ | ⟨b, off, cap, rfl, _, _⟩
    · exact ⟨_, _, _, rfl⟩
    · exact ⟨_, _, _, rfl⟩
  have hnl : xs.length = nl := by
    rcases O.sl with ⟨⟨p, e⟩, h0, _⟩ | ⟨b, off, cap, e, _, _⟩
    · cases e; omega
    · have e2 := congrArg (fun v => match v with | Value.slice _ n _ => n | _ => 0) e; exact e2.symm
  have O' := Lib.hid O
  have hnl' := Lib.hid hnl
  clear h16 h32 h48 hidb hsdb hIT hSG hFT hT0 O hnl
  go_enter Try.func5, Try.ntmps5
  have tok1 : True := trivial
  go_wp2_with (first
    | (clear tok1; go_at_call 12; refine (hsec.out _).mono ?_; rintro e w1 ⟨rfl, h3⟩; have H2 := H.call0 h3; clear H h3; have H := H2; clear H2; have tok2 : True := trivial)
    | (clear tok2; refine st_new rfl (rn_alloc (cs := u8s (List.replicate 48 0)) H rfl (by kernel_rfl)) ?_; clear H; intro b5 w2 hb5 H; have tok3 : True := trivial)
    | (clear tok3; refine st_skip rfl (rn_storeAll (vs := u8s (id ++ sd)) H rfl rfl rfl hsz48.out .head (by have := hsz48.out; rw [size_secret] at this; simp at this; rw [length_ints, length_ints, List.length_append]; simp; omega) (oneCell_ints _ _)) ?_; clear H; intro w3 H; have tok4 : True := trivial)
    | (clear tok4; refine st_val rfl (rn_loadAll (cs := u8s (id ++ sd)) H rfl rfl (.head _) rfl rfl hsz48.out) ?_; have tok5 : True := trivial)
    | (clear tok5; go_at_call 11; refine (hnw.out _ 0 (by omega) (by omega)).mono ?_; rintro e w4 ⟨kb, tb, rfl, hkb, htb, h3⟩; have hkb0 := Nat.le_trans H.size hkb; have htb0 := Nat.le_trans H.size htb; have H2 := Own.call (L1 := []) H ⟨h3, by simp; omega⟩ (by simp); clear H h3; have H := H2; clear H2; have tok6 : True := trivial)
    | (clear tok6; refine st_new rfl (rn_alloc H rfl info_bools) ?_; clear H; intro b8 w5 hb8 H; have tok7 : True := trivial))
  have H2 := H.perm (L' := [(kb, sgC tb 0 0, 74), (tb, T0, 104), (b8, List.replicate 32 (.bool false), 48), (b5, u8s (id ++ sd), 30)]) (List.Perm.trans (List.Perm.swap _ _ _) (List.Perm.cons _ (List.Perm.swap _ _ _)))
  clear H
  have H := H2
  clear H2 hsec
  go_loopw [6, 9, 10, 11, 12, 13] (fun v6 v9 _ _ _ _ wr => ∃ (i kb tb : Nat) (n r : Int) (cs us : List Value), i ≤ 60 ∧ i ≤ nl ∧ v6 = .pointer (some ⟨kb, 0, none⟩) ∧ v9 = .int .i64 ((i : Nat) : Int) ∧ 0 ≤ n ∧ n ≤ r ∧ r ≤ 32 ∧ IT cs ∧ us.length = 32 ∧ (∀ j : Nat, n ≤ j → j < 32 → us[j]? = some (.bool false)) ∧ w.heap.size ≤ kb ∧ w.heap.size ≤ tb ∧ Own w wr [(kb, sgC tb n r, 74), (tb, cs, 104), (b8, us, 48), (b5, u8s (id ++ sd), 30)]) (fun _ v9 _ _ _ _ _ => ((60 : Nat) - intOf v9).toNat)
  case atStart => exact ⟨0, kb, tb, 0, 0, T0, List.replicate 32 (.bool false), by omega, by omega, rfl, rfl, by omega, by omega, by omega, hi0.out, by simp, fun j _ hj => by rw [List.getElem?_replicate, if_pos hj], by omega, by omega, H⟩
  case round =>
    clear H
    obtain ⟨i, kb, tb, n, r, cs, us, hi, hil, rfl, rfl, hn0, hnr, hr, hcs, hul, huf, hkb, htb, H⟩ := hrel
    have HR := Lib.hid H
    have hcs' := Lib.hid hcs
    have hul' := Lib.hid hul
    have huf' := Lib.hid huf
    have hkw := HR.out.lt (.head _)
    have htw := HR.out.lt (.tail _ (.head _))
    clear H hcs hul huf
    have H := Own.refl wr
    by_cases hin : i < nl ∧ i < 60
    · obtain ⟨hin1, hin2⟩ := hin
      obtain ⟨x, hx⟩ : ∃ x, xs[i]? = some x := ⟨_, List.getElem?_eq_getElem (by have := hnl'.out; omega)⟩
      obtain ⟨og, oo, hp0⟩ := O'.out.addr (by have := hnl'.out; omega)
      subst hp0
      have hcell : Hid (∀ w1 L1, Own w w1 L1 → (∀ b ∈ L1.map (·.1), w.heap.size ≤ b) → w1.cell? ⟨og, oo + (i : Int).toNat * 1, none⟩ = some (.int .i64 x)) := fun w1 L1 h1 h2 => by
        exact O'.out.cellAt h1 h2 (by simpa using hx)
      clear hx
      have hLn : Hid (∀ b ∈ ([(kb, sgC tb n r, 74), (tb, cs, 104), (b8, us, 48), (b5, u8s (id ++ sd), 30)] : List Ent).map (·.1), w.heap.size ≤ b) := by
        show ∀ b ∈ _, _
        simp
        omega
      obtain ⟨c, hce, hc⟩ := rem_wrap x 4 (by omega) (by omega)
      have hc4 : c = 0 ∨ c = 1 ∨ (2 ≤ c ∧ c < 4) := by omega
      clear hc
      rcases hc4 with rfl | rfl | ⟨hc2, hc4⟩
      · skip
        have tok1 : True := trivial
        go_wp2_with (first
          | (refine st_val rfl (rn_idxSl (j := (i : Int)) rfl rfl size_i64 rfl rfl (by omega) (by omega)) ?_)
          | (refine st_val rfl (rn_cell (i := oo + (i : Int).toNat * 1) rfl rfl rfl rfl (hcell.out _ _ (HR.out.call0 H) hLn.out)) ?_))
        obtain ⟨y, hy⟩ : ∃ y : Int, wrap64 ((IntKind.u64.wrap ((IntKind.u64.wrap x).tdiv 4)).tmod 3) = y := ⟨_, rfl⟩
        have hyr : 0 ≤ y ∧ y < 3 := by rw [← hy]; exact y_range x
        obtain ⟨hy0, hy3⟩ := hyr
        have hy2 : IntKind.i64.wrap ((IntKind.u64.wrap ((IntKind.u64.wrap x).tdiv 4)).tmod 3) = y := (IntWalk.i64_left _).trans hy
        obtain ⟨z, hz⟩ : ∃ z : Int, (if 32 < r + 1 + y then (32 : Int) else r + 1 + y) = z := ⟨_, rfl⟩
        have hzr : r ≤ z ∧ z ≤ 32 := by rw [← hz]; split <;> omega
        obtain ⟨hz1, hz2⟩ := hzr
        have k1 : Hid (∀ w', Own wr w' [] → w'.cell? ⟨kb, 2, none⟩ = some (.int .i64 r)) := fun w' h => (HR.out.call0 h).cell (.head _) 2
        refine region_grow 14 (by kernel_rfl) (by kernel_rfl) (by kernel_rfl) [.val (.pointer (some ⟨kb, 0, none⟩)), .val (.pointer (some ⟨kb, 0, none⟩)), .val (.int .i64 r), .val (.int .i64 (r + 1)), .val (.slice (some ⟨og, oo, none⟩) nl cl), .val (.int .i64 i), .val (.pointer (some ⟨og, oo + (i : Int).toNat * 1, none⟩)), .val (.int .i64 x), .val (.int .u64 (IntKind.u64.wrap x)), .val (.int .u64 (IntKind.u64.wrap ((IntKind.u64.wrap x).tdiv 4))), .val (.int .u64 ((IntKind.u64.wrap ((IntKind.u64.wrap x).tdiv 4)).tmod 3)), .val (.int .i64 y), .val (.int .i64 (r + 1 + y)), .val (.int .i64 z)] rfl ?_
        have tok3 : True := trivial
        try go_frame
        repeat (first
          | (clear tok3; refine sp_callN (v := .int .i64 r) (args := #[.pointer (some ⟨kb, 0, none⟩)]) rfl rfl (by simp [Act.eval]) Try.func21 (by kernel_rfl) (by kernel_rfl) (fun w' hw' _ => kresd_any w' kb r (k1.out w' hw')) ?_; try go_frame; have tok4 : True := trivial)
          | (clear tok4; refine sp_run (v := .pointer (some ⟨og, oo + (i : Int).toNat * 1, none⟩)) rfl (fun w' hw' _ => rn_idxSl (j := (i : Int)) rfl rfl size_i64 rfl rfl (by omega) (by omega)) ?_; try go_frame; have tok5 : True := trivial)
          | (clear tok5; refine sp_run (v := .int .i64 x) rfl (fun w' hw' _ => rn_cell (i := oo + (i : Int).toNat * 1) rfl rfl rfl rfl (hcell.out _ _ (HR.out.call0 hw') hLn.out)) ?_; try go_frame)
          | (refine sp_val (fun w' hw' hF => ?_) ⟨_, rfl, Nat.le_of_ble_eq_true rfl⟩ ?_
             · go_big_quiet_step (fail)
               first
                 | exact rfl
                 | (rw [hy]; exact rfl)
                 | (rw [hy2]; exact rfl)
                 | (rw [hz]; exact rfl)
             try go_frame))
        refine sp_nil ?_
        intro w6 hw' hF
        clear hF
        simp only [List.drop_succ_cons, List.drop_zero]
        have H := hw'
        clear hw' hy hy2 hz
        have tok1 : True := trivial
        go_wp2_with (first
          | (clear tok1; go_at_call 13; refine (kreserve_ok _ kb tb n r z ((HR.out.call0 H).sub1 (.head _)) hz1 hz2).mono ?_; rintro e w7 ⟨rfl, h3⟩; have HN := Lib.hid (Own.next (L := [_]) (M := [_, _, _]) (HR.out.call0 H) h3 rfl); clear h3; have tok2 : True := trivial))
        exact ⟨⟨i + 1, kb, tb, n, z, cs, us, by omega, by omega, rfl, by go_num, hn0, by omega, hz2, hcs'.out, hul'.out, huf'.out, hkb, htb, HN.out⟩, by simp [intOf]; omega⟩
      · skip
        have tok1 : True := trivial
        go_wp2_with (first
          | (refine st_val rfl (rn_idxSl (j := (i : Int)) rfl rfl size_i64 rfl rfl (by omega) (by omega)) ?_)
          | (refine st_val rfl (rn_cell (i := oo + (i : Int).toNat * 1) rfl rfl rfl rfl (hcell.out _ _ (HR.out.call0 H) hLn.out)) ?_))
        have k1 : Hid (∀ w', Own wr w' [] → w'.cell? ⟨kb, 2, none⟩ = some (.int .i64 r)) := fun w' h => (HR.out.call0 h).cell (.head _) 2
        have k2 : Hid (∀ w', Own wr w' [] → ∀ j v, (u8s (id ++ sd))[j]? = some v → w'.cell? ⟨b5, 0 + j, none⟩ = some v) := fun w' h j v hj => by rw [(HR.out.call0 h).cell (.tail _ (.tail _ (.tail _ (.head _)))), Nat.zero_add]; exact hj
        have hnw1 : Hid (∀ w', Own wr w' [] → Calls Try.prog 11 #[.agg (u8s (id ++ sd)).toArray, .int .i64 2, .int .i64 r] w' fun e w'' => ∃ v, e = .returned v ∧ NewK wr.heap.size r T0 w'' v ∧ Own w' w'' []) := fun w' h => (hnw.out w' r (by omega) hr).mono fun e w'' ⟨kb2, tb2, h1, h2, h3, h4⟩ => by
          have hnd := h4.nodup
          simp at hnd
          exact ⟨_, h1, ⟨kb2, tb2, rfl, Nat.le_trans h.size h2, Nat.le_trans h.size h3, hnd, h4.here _ _ _ (.head _), h4.here _ _ _ (.tail _ (.head _))⟩, h4.end0 (by simp; omega)⟩
        refine region_grow 8 (by kernel_rfl) (by kernel_rfl) (by kernel_rfl) [.val (.agg (u8s (id ++ sd)).toArray), .val (.pointer (some ⟨kb, 0, none⟩)), .val (.int .i64 r), .rel (NewK wr.heap.size r T0), .rel (NewK wr.heap.size r T0), .rel (NewP wr.heap.size r T0), .val (.int .i64 0), .rel (NewP wr.heap.size r T0)] rfl ?_
        have tok3 : True := trivial
        try go_frame
        repeat (first
          | (clear tok3; refine sp_run (v := .agg (u8s (id ++ sd)).toArray) rfl (fun w' hw' _ => rn_cells rfl rfl rfl rfl hsz48.out (k2.out w' hw')) ?_; try go_frame; have tok4 : True := trivial)
          | (clear tok4; refine sp_callN (v := .int .i64 r) (args := #[.pointer (some ⟨kb, 0, none⟩)]) rfl rfl (by simp [Act.eval]) Try.func21 (by kernel_rfl) (by kernel_rfl) (fun w' hw' _ => kresd_any w' kb r (k1.out w' hw')) ?_; try go_frame; have tok5 : True := trivial)
          | (clear tok5; refine sp_callR (args := #[.agg (u8s (id ++ sd)).toArray, .int .i64 2, .int .i64 r]) (NewK.mono _ _ _) rfl rfl (by simp [Act.eval]) Try.func11 (by kernel_rfl) (by kernel_rfl) (fun w' hw' _ => hnw1.out w' hw') ?_; intro v120; try go_frame; have tok6 : True := trivial)
          | (clear tok6; refine sp_rel (NewK.mono _ _ _) rfl (fun w' hw' hF => yieldsTo_val' (rn_move rfl rfl) ⟨Own.refl _, (hF.2 _ rfl (List.mem_of_elem_eq_true (by kernel_rfl)))⟩) ?_; intro v116; try go_frame; have tok7 : True := trivial)
          | (clear tok7; refine sp_rel (NewP.mono _ _ _) rfl (fun w' hw' hF => ?_) ?_
             · obtain ⟨kb2, tb2, e1, e2⟩ := (hF.2 _ rfl (List.mem_of_elem_eq_true (by kernel_rfl)))
               exact yieldsTo_val' (rn_extract rfl e1 rfl) ⟨Own.refl _, kb2, tb2, rfl, e2⟩
             intro v121; try go_frame; have tok8 : True := trivial)
          | (clear tok8; refine sp_run (v := .int .i64 0) rfl (fun w' hw' hF => ?_) ?_
             · obtain ⟨kb2, tb2, e1, e2⟩ := (hF.1.2 _ rfl (List.mem_of_elem_eq_true (by kernel_rfl)))
               exact rn_extract rfl e1 rfl
             try go_frame; have tok9 : True := trivial)
          | (clear tok9; refine sp_rel (NewP.mono _ _ _) rfl (fun w' hw' hF => yieldsTo_val' (rn_assign rfl rfl) ⟨Own.refl _, (hF.2 _ rfl (List.mem_of_elem_eq_true (by kernel_rfl)))⟩) ?_; intro v10; try go_frame)
          | (refine sp_val (fun w' hw' hF => ?_) ⟨_, rfl, Nat.le_of_ble_eq_true rfl⟩ ?_
             · go_big_quiet_step (fail)
               exact rfl
             try go_frame))
        refine sp_nil ?_
        intro w6 hw' hF
        obtain ⟨kb2, tb2, e1, hk2, ht2, hne, hck, hct⟩ := hF.2 _ rfl trivial
        subst e1
        have HN : Hid (Own w w6 [(kb2, sgC tb2 r r, 74), (tb2, T0, 104), (b8, us, 48), (b5, u8s (id ++ sd), 30)]) := by
          have hb1 := HR.out.lt (.tail _ (.tail _ (.head _)))
          have hb2 := HR.out.lt (.tail _ (.tail _ (.tail _ (.head _))))
          have h1 := ((HR.out.call0 hw').adopt hct (by simp; omega)).adopt hck (by simp; omega)
          exact Own.drop (L1 := [(kb, sgC tb n r, 74), (tb, cs, 104)]) (h1.perm (perm_22 _ _ _ _ _ _)) (by simp; omega)
        have hk3 := Nat.le_trans HR.out.size hk2
        have ht3 := Nat.le_trans HR.out.size ht2
        clear hF hw' hck hct hnw1 k1 k2
        simp only [List.drop_succ_cons, List.drop_zero]
        go_wp2_with fail
        exact ⟨⟨i + 1, kb2, tb2, r, r, T0, us, by omega, by omega, rfl, by go_num, by omega, by omega, hr, hi0.out, hul'.out, fun j hj => huf'.out j (by omega), hk3, ht3, HN.out⟩, by simp [intOf]; omega⟩
      · have hcn0 : ((c : Int) == 0) = false := by simp; omega
        have hcn1 : ((c : Int) == 1) = false := by simp; omega
        by_cases hok : n < 32 ∧ n < r
        · obtain ⟨hok1, hok2⟩ := hok
          obtain ⟨q, rfl⟩ : ∃ q : Nat, n = (q : Int) := ⟨n.toNat, by omega⟩
          have hq32 : q < 32 := by omega
          obtain ⟨hz0, hz1, hz2, hz3⟩ := hs3.out q [(i : Int)] hq32
          have hSc : Hid (∀ w' (B g c : Nat), BufS B (SG q [(i : Int)]) w' (.slice (some ⟨g, 0, none⟩) 4460 c) → w'.cell? ⟨g, 0, none⟩ = some (.int .u8 0) ∧ w'.cell? ⟨g, 1, none⟩ = some (.int .u8 0) ∧ w'.cell? ⟨g, 2, none⟩ = some (.int .u8 0) ∧ w'.cell? ⟨g, 3, none⟩ = some (.int .u8 (q : Int))) := fun w' B g c h => by
            have hl : (SG q [(i : Int)]).length = 4460 := by obtain ⟨g2, c2, cs2, e1, _⟩ := h; have e2 := congrArg (fun v => match v with | Value.slice _ n _ => n | _ => 0) e1; exact e2.symm
            have h1 := h.old.1
            rw [← hl] at h1
            have h2 := bytes_cellV h1
            refine ⟨?_, ?_, ?_, ?_⟩
            · have := h2 0 _ hz0; rwa [Nat.zero_add] at this
            · have := h2 1 _ hz1; rwa [Nat.zero_add] at this
            · have := h2 2 _ hz2; rwa [Nat.zero_add] at this
            · have := h2 3 _ hz3; rwa [Nat.zero_add] at this
          have huq : Hid (us[q]? = some (.bool false)) := huf'.out q (by omega) hq32
          have htn : Hid ((q : Int).toNat = q) := rfl
          clear hz0 hz1 hz2 hz3 hn0
          have hqd1 : decide (32 ≤ (q : Int)) = false := decide_eq_false (by omega)
          have hqd2 : decide (32 ≤ q) = false := decide_eq_false (by omega)
          have tok1 : True := trivial
          go_wp2_with (first
            | (refine st_val rfl (rn_idxSl (j := (i : Int)) rfl rfl size_i64 rfl rfl (by omega) (by omega)) ?_)
            | (refine st_val rfl (rn_cell (i := oo + (i : Int).toNat * 1) rfl rfl rfl rfl (hcell.out _ _ (HR.out.call0 H) hLn.out)) ?_)
            | (clear tok1; refine st_new rfl (rn_buildSlice (e := 5) (cs := u8s [(i : Int)]) H rfl (fun w' => by kernel_rfl)) ?_; clear H; intro b15 w5 hb15 H; have H5 := Lib.hid (HR.out.call0 (H.end0 (by simpa using hb15))); have M5 := Lib.hid (Old.intro' (Own.lit H rfl) (Own.lit_lt H)); clear H; have H := Own.refl w5; have tok2 : True := trivial)
            | (clear tok2; go_at_call 14; refine (hsg.out _ kb tb (q : Int) r cs _ [(i : Int)] (by omega) hok1 hok2 hcs'.out M5.out (isBytes_one (by omega)) (by simp) (H5.out.self2.subl2) (fun k hk => by obtain rfl := (blk_some hk).1; show b15 ≠ kb; omega) (fun k hk => by obtain rfl := (blk_some hk).1; show b15 ≠ tb; omega)).mono ?_; rintro e w6 ⟨g, c6, rfl, h1, h2, h4, h5, h6⟩; rw [htn.out] at h5; have S6 := Lib.hid (hSc.out _ _ _ _ h5); have HN := Lib.hid (Own.next (L := [_, _]) (M := [_, _]) H5.out h6 rfl); clear h1 h2 h4 h5 h6 M5 H5 H; have H := Own.refl w6; have tok3 : True := trivial)
            | (refine st_valG rfl (rn_idxSl (j := 0) rfl rfl size_u8 rfl rfl (by omega) (by omega)) ?_)
            | (refine st_valG rfl (rn_cell rfl rfl rfl rfl S6.out.1) ?_)
            | (refine st_valG rfl (rn_idxSl (j := 1) rfl rfl size_u8 rfl rfl (by omega) (by omega)) ?_)
            | (refine st_valG rfl (rn_cell rfl rfl rfl rfl S6.out.2.1) ?_)
            | (refine st_valG rfl (rn_idxSl (j := 2) rfl rfl size_u8 rfl rfl (by omega) (by omega)) ?_)
            | (refine st_valG rfl (rn_cell rfl rfl rfl rfl S6.out.2.2.1) ?_)
            | (refine st_valG rfl (rn_idxSl (j := 3) rfl rfl size_u8 rfl rfl (by omega) (by omega)) ?_)
            | (refine st_valG rfl (rn_cell rfl rfl rfl rfl S6.out.2.2.2) ?_)
            | (refine st_valG rfl (rn_idxArrN (j := q) (q := q) rfl rfl size_bool rfl rfl rfl hq32 (by omega)) ?_)
            | (refine st_valG rfl (rn_cell rfl rfl rfl rfl ((HN.out.cell (.tail _ (.tail _ (.head _))) q).trans huq.out)) ?_)
            | (refine st_val rfl (rn_idxSl (j := 3) rfl rfl size_u8 rfl rfl (by omega) (by omega)) ?_)
            | (refine st_val rfl (rn_cell rfl rfl rfl rfl S6.out.2.2.2) ?_)
            | (refine st_val rfl (rn_idxArrN (j := q) (q := q) rfl rfl size_bool rfl rfl rfl hq32 (by omega)) ?_)
            | (clear tok3; have HX := HN.out; refine st_skip rfl (rn_store (v := .bool true) HX rfl rfl rfl size_bool (.tail (.tail .head)) (by rw [hul'.out]; exact hq32) rfl) ?_; clear HX; intro w7 H7; have HM := Lib.hid H7; clear H7; have tok4 : True := trivial))
          exact ⟨⟨i + 1, kb, tb, (q : Int) + 1, r, FT, us.set q (.bool true), by omega, by omega, rfl, by go_num, by omega, by omega, hr, hi1.out, (by rw [List.length_set]; exact hul'.out), fun j hj hj2 => by rw [List.getElem?_set_ne (by omega)]; exact huf'.out j (by omega) hj2, hkb, htb, HM.out⟩, by simp [intOf]; omega⟩
        · have hKS : Hid (∃ z : Int, z ≠ 0 ∧ ∀ w' mv, Own wr w' [] → Calls Try.prog 14 #[.pointer (some ⟨kb, 0, none⟩), mv] w' fun e w'' => e = .returned (.tuple #[.slice none 0 0, .int .i64 z]) ∧ Own w' w'' []) := by
            by_cases h32 : 32 ≤ n
            · exact ⟨4, by omega, fun w' mv h => ksign_empty w' kb _ mv ((HR.out.call0 h).cell (.head _) 1) h32⟩
            · exact ⟨6, by omega, fun w' mv h => ksign_none w' kb tb n r mv (by omega) (by omega) ((HR.out.call0 h).sub1 (.head _))⟩
          obtain ⟨z, hz, hks⟩ := hKS.out
          have hks' := Lib.hid hks
          have hz1 : (z == 0) = false := by simpa using hz
          have hz2 : (z != 0) = true := by simpa using hz
          have hok' := Lib.hid hok
          clear hks hKS hok
          have tok1 : True := trivial
          go_wp2_with (first
            | (refine st_val rfl (rn_idxSl (j := (i : Int)) rfl rfl size_i64 rfl rfl (by omega) (by omega)) ?_)
            | (refine st_val rfl (rn_cell (i := oo + (i : Int).toNat * 1) rfl rfl rfl rfl (hcell.out _ _ (HR.out.call0 H) hLn.out)) ?_)
            | (clear tok1; refine st_new rfl (rn_buildSlice (e := 5) (cs := u8s [(i : Int)]) H rfl (fun w' => by kernel_rfl)) ?_; clear H; intro b15 w5 hb15 H5; have H := H5.end0 (by simpa using hb15); clear H5; have tok2 : True := trivial)
            | (clear tok2; go_at_call 14; refine (hks'.out _ _ H).mono ?_; rintro e w6 ⟨rfl, h3⟩; have H2 := H.call0 h3; clear H h3; have H := H2; clear H2; have tok3 : True := trivial))
          exact ⟨⟨i + 1, kb, tb, n, r, cs, us, by omega, by omega, rfl, by go_num, hn0, hnr, hr, hcs'.out, hul'.out, huf'.out, hkb, htb, HR.out.call0 H⟩, by simp [intOf]; omega⟩
    · rcases (show ¬ i < nl ∨ (i < nl ∧ ¬ i < 60) by omega) with hq1 | ⟨hq1, hq2⟩
      all_goals
        clear hin
        have tok1 : True := trivial
        go_wp2_with (first
          | (clear tok1; go_at_call 16; refine (hto.out _).mono ?_; rintro e w8 ⟨rfl, h3⟩; have H2 := H.call0 h3; clear H h3; have H := H2; clear H2; have tok2 : True := trivial))
        have hLn : Hid (∀ b ∈ ([(kb, sgC tb n r, 74), (tb, cs, 104), (b8, us, 48), (b5, u8s (id ++ sd), 30)] : List Ent).map (·.1), w.heap.size ≤ b) := by
          show ∀ b ∈ _, _
          simp
          omega
        have HE := Lib.hid ((HR.out.call0 H).end0 hLn.out)
        clear H
        go_ret
        exact ⟨rfl, HE.out⟩

end Go.Proofs.Ytfihlmnbonnekaa
