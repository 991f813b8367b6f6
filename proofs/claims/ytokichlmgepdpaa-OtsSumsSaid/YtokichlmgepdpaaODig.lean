/- chirographlaw3.OtsDigits: the walk. -/
import Derived.Test.YtokichlmgepdpaaOTold2
import Derived.Test.YtokichlmgepdpaaRefO
namespace Go.Proofs.Ytokichlmgepdpaa
open Go.RowKit

section
variable {P : Program} {o : Oper} {a : Act} {w : World}
theorem rn_move {x : Operand} {v : Value} (ho : o.op = .move x) (hx : a.eval x = v) : (execOp a.eval o).run P w = .ok (.value v) w := by unfold execOp; simp [ho, hx]
theorem rn_assign {x : Operand} {v : Value} (ho : o.op = .assign x) (hx : a.eval x = v) : (execOp a.eval o).run P w = .ok (.value v) w := by unfold execOp; simp [ho, hx]
theorem rn_extract {x : Operand} {i : Nat} {cs : Array Value} {v : Value} (ho : o.op = .extract x i) (hx : a.eval x = .tuple cs) (hv : cs[i]? = some v) : (execOp a.eval o).run P w = .ok (.value v) w := by unfold execOp; simp [ho, hx, hv, Instr.extract]
end

/-- a cell of a slice of numbers -/
theorem IIn.cellsAt {w : World} {p : Option Addr} {n c : Nat} {xs : List Int} {k : IntKind} (h : IIn k xs w (.slice p n c)) (h0 : 0 < xs.length) : ∃ b off, p = some ⟨b, off, none⟩ ∧ n = xs.length ∧ ∀ i v, (ints k xs)[i]? = some v → w.cell? ⟨b, off + i, none⟩ = some v := by
  obtain ⟨⟨p1, c1, h1⟩, h2, _⟩ := h
  cases h1
  rcases h2 with ⟨_, h3, _⟩ | ⟨b, off, c2, h3, _, h4⟩
  · omega
  · cases h3
    exact ⟨b, off, rfl, rfl, h4⟩

/-- digits and a code that says all went right -/
def TupI (xs : List Int) : World → Value → Prop := fun w v => ∃ p c, v = .tuple #[.slice p xs.length c, .int .i64 0] ∧ IIn .i64 xs w (.slice p xs.length c)
theorem TupI.mono (xs : List Int) : Mono (TupI xs) := fun _ _ _ h ⟨p, c, h1, h2⟩ => ⟨p, c, h1, (IIn.mono _ _) _ _ _ h h2⟩

def kOf : Nat → Nat
  | 0 => 1
  | 1 => 2
  | 2 => 4
  | _ => 8
theorem kOf_w (i : Nat) : kOf i = 1 ∨ kOf i = 2 ∨ kOf i = 4 ∨ kOf i = 8 := by
  unfold kOf
  split <;> omega
theorem kOf_at {i : Nat} (h : i < 4) : (i64s [1, 2, 4, 8])[i]? = some (.int .i64 (kOf i : Nat)) := by
  match i, h with
  | 0, _ => rfl
  | 1, _ => rfl
  | 2, _ => rfl
  | 3, _ => rfl

theorem digitsT_any (w : World) (k : Nat) (hk : k = 1 ∨ k = 2 ∨ k = 4 ∨ k = 8) (hs : List Int) (h32 : hs.length = 32) (hb : IsBytes hs) :
    Calls Try.prog 11 #[.int .i64 k, .agg (u8s hs).toArray] w fun e w' => ∃ r, e = .returned r ∧ TupI (digits hs k) w' r ∧ Own w w' [] :=
  (digits_any w k hk hs h32 hb).mono fun e w' ⟨v, h1, h2, h3⟩ => by
    have h4 := h2.1
    obtain ⟨p, c, rfl⟩ := h4
    exact ⟨_, h1, ⟨p, c, rfl, h2⟩, h3⟩

theorem isW_cases {x : Int} (h : isW x = true) : ∃ k : Nat, (k = 1 ∨ k = 2 ∨ k = 4 ∨ k = 8) ∧ x = (k : Int) := by
  unfold isW at h
  rw [decide_eq_true_eq] at h
  rcases h with rfl | rfl | rfl | rfl
  · exact ⟨1, by omega, rfl⟩
  · exact ⟨2, by omega, rfl⟩
  · exact ⟨4, by omega, rfl⟩
  · exact ⟨8, by omega, rfl⟩
theorem chN_le' (k : Nat) : 34 ≤ chN k ∧ chN k ≤ 265 := by unfold chN; repeat (first | omega | split)
theorem chainsOf_zero {x : Int} (h : isW x = false) : chainsOf x = 0 := by
  have h1 := chainsOf_pos x
  rw [h, decide_eq_false_iff_not] at h1
  have := (chainsOf_le x).1
  omega

set_option maxRecDepth 100000 in
set_option maxHeartbeats 4000000 in
theorem otsDigits_row (w : World) (x : Int) (_ : IntKind.i64.min ≤ x) (_ : x ≤ IntKind.i64.max) (hs : List Int) (h32 : hs.length = 32) (hb : ∀ i, i < hs.length → 0 ≤ hs[i]?.getD 0 ∧ hs[i]?.getD 0 < 256) :
    Calls Try.prog 3 #[.int .i64 x, .agg (u8s hs).toArray] w fun e w' => e = .returned (.bool true) ∧ Own w w' [] := by
  rename_i q1 q2
  clear q1 q2
  have H := Own.refl w
  have hib : IsBytes hs := hb
  have h32' := Lib.hid h32
  have hib' := Lib.hid hib
  have hc1 : Hid (∀ w', Calls Try.prog 15 #[.int .i64 x] w' fun e w'' => e = .returned (.int .i64 (chainsOf x)) ∧ Own w' w'' []) := fun w' => chains_any w' x
  have hc2 : Hid (∀ w', Calls Try.prog 12 #[.int .i64 x] w' fun e w'' => e = .returned (.int .i64 (chainsOf x)) ∧ Own w' w'' []) := fun w' => refChains_any w' x
  have hsz := Lib.hid (size_hashL h32)
  have hdg : Hid (∀ w' i, Calls Try.prog 11 #[.int .i64 (kOf i : Nat), .agg (u8s hs).toArray] w' fun e w'' => ∃ r, e = .returned r ∧ TupI (digits hs (kOf i)) w'' r ∧ Own w' w'' []) := fun w' i => digitsT_any w' (kOf i) (kOf_w i) hs h32 hib
  have hdr : Hid (∀ w' i, Calls Try.prog 13 #[.int .i64 (kOf i : Nat), .agg (u8s hs).toArray] w' fun e w'' => ∃ r, e = .returned r ∧ IIn .i64 (digits hs (kOf i)) w'' r ∧ Own w' w'' []) := fun w' i => refDigits_any w' (kOf i) (kOf_w i) hs h32 hib
  cases hw : isW x with
  | false =>
    have hd0 : Hid (∀ w', Calls Try.prog 11 #[.int .i64 x, .agg (u8s hs).toArray] w' fun e w'' => ∃ p c n, e = .returned (.tuple #[.slice p n c, .int .i64 1]) ∧ n = 0 ∧ Own w' w'' []) := fun w' => (digits_bad w' x hw hs).mono fun e w2 ⟨h1, h2⟩ => ⟨none, 0, 0, h1, rfl, h2⟩
    have hcx : chainsOf x = 0 := chainsOf_zero hw
    obtain ⟨cx, hcxe⟩ : ∃ c, c = chainsOf x := ⟨_, rfl⟩
    rw [← hcxe] at hc1 hc2 hcx
    clear hcxe hb hib h32 hw
    subst hcx
    go_enter Try.func3, Try.ntmps3
    have tok1 : True := trivial
    go_wp2_with (first
      | (clear tok1; refine st_new rfl (rn_box (cs := u8s hs) H rfl rfl rfl) ?_; clear H; intro b3 w1 hb3 H; have tok2 : True := trivial)
      | (refine st_val rfl (rn_loadAll (cs := u8s hs) H rfl rfl (.head _) rfl rfl hsz.out) ?_)
      | (clear tok2; go_at_call 11; refine (hd0.out _).mono ?_; rintro e w2 ⟨p1, c1, n1, rfl, rfl, h3⟩; have H2 := H.call0 h3; clear H h3; have H := H2; clear H2; have tok3 : True := trivial)
      | (clear tok3; go_at_call 12; refine (hc2.out _).mono ?_; rintro e w3 ⟨rfl, h3⟩; have H2 := H.call0 h3; clear H h3; have H := H2; clear H2; have tok4 : True := trivial)
      | (clear tok4; refine st_newG rfl (rn_buildSlice (e := 3) (cs := i64s [1, 2, 4, 8]) (Own.refl w3) rfl (fun w' => by kernel_rfl)) ?_; intro b7 w4 hb7 M; have g7 := Nat.le_trans H.size hb7; have H2 := H.callNew M hb7; clear H M; have H := H2; clear H2))
    have hc3 : Hid (∀ w', Own w4 w' [] → ∀ j v, (u8s hs)[j]? = some v → w'.cell? ⟨b3, 0 + j, none⟩ = some v) := fun w' h j v hj => by rw [(H.call0 h).cell (.tail _ (.head _)), Nat.zero_add]; exact hj
    have hc7 : Hid (∀ w', Own w4 w' [] → ∀ j v, (i64s [1, 2, 4, 8])[j]? = some v → w'.cell? ⟨b7, j, none⟩ = some v) := fun w' h j v hj => by rw [(H.call0 h).cell (.head _)]; exact hj
    have H4 := Lib.hid H
    clear H hd0
    have H := Own.refl w4
    go_loopw [4, 8, 9, 10, 11, 12] (fun v4 v8 _ _ _ _ wr => ∃ i : Nat, i ≤ 4 ∧ v4 = .bool false ∧ v8 = .int .i64 ((i : Nat) : Int) ∧ Own w4 wr []) (fun _ v8 _ _ _ _ _ => ((4 : Nat) - intOf v8).toNat)
    case atStart => exact ⟨0, by omega, rfl, rfl, H⟩
    case round =>
      clear H
      obtain ⟨i, hi, rfl, rfl, H⟩ := hrel
      by_cases hin : i < 4
      · have hk7 : Hid (∀ w', Own w4 w' [] → w'.cell? ⟨b7, i, none⟩ = some (.int .i64 (kOf i : Nat))) := fun w' h => hc7.out w' h i _ (kOf_at hin)
        have hdgi : Hid (∀ w', Calls Try.prog 11 #[.int .i64 (kOf i : Nat), .agg (u8s hs).toArray] w' fun e w'' => ∃ r, e = .returned r ∧ TupI (digits hs (kOf i)) w'' r ∧ Own w' w'' []) := fun w' => hdg.out w' i
        have hdri : Hid (∀ w', Calls Try.prog 13 #[.int .i64 (kOf i : Nat), .agg (u8s hs).toArray] w' fun e w'' => ∃ r, e = .returned r ∧ IIn .i64 (digits hs (kOf i)) w'' r ∧ Own w' w'' []) := fun w' => hdr.out w' i
        have hdl : Hid (0 < (digits hs (kOf i)).length) := by show _ < _; rw [length_digits]; have := (chN_le' (kOf i)).1; omega
        have hdl2 : (digits hs (kOf i)).length ≤ 265 := by rw [length_digits]; exact (chN_le' (kOf i)).2
        obtain ⟨ds, hds⟩ : ∃ d, d = digits hs (kOf i) := ⟨_, rfl⟩
        rw [← hds] at hdgi hdri hdl hdl2
        obtain ⟨k, hk⟩ : ∃ k, k = kOf i := ⟨_, rfl⟩
        rw [← hk] at hk7 hdgi hdri
        clear hds hk
        obtain ⟨n, hn⟩ : ∃ n, n = ds.length := ⟨_, rfl⟩
        have hn' := Lib.hid hn
        rw [← hn] at hdl hdl2
        clear hn
        have HR := Lib.hid H
        clear H
        go_wp2_with fail
        refine region_grow 10 (by kernel_rfl) (by kernel_rfl) (by kernel_rfl) [.val (.slice (some ⟨b7, 0, none⟩) 4 4), .val (.int .i64 i), .val (.pointer (some ⟨b7, i, none⟩)), .val (.int .i64 k), .val (.agg (u8s hs).toArray), .rel (TupI ds), .rel (TupI ds), .rel (IIn .i64 ds), .val (.int .i64 0), .rel (IIn .i64 ds)] rfl ?_
        have tok5 : True := trivial
        try go_frame
        repeat (first
          | (clear tok5; refine sp_run (v := .int .i64 k) rfl (fun w' hw' _ => rn_cell rfl rfl rfl rfl (hk7.out w' (HR.out.trans hw'))) ?_; go_frame; have tok6 : True := trivial)
          | (clear tok6; refine sp_run (v := .agg (u8s hs).toArray) rfl (fun w' hw' _ => rn_cells rfl rfl rfl rfl hsz.out (hc3.out w' (HR.out.trans hw'))) ?_; go_frame; have tok7 : True := trivial)
          | (clear tok7; refine sp_callR (args := #[.int .i64 k, .agg (u8s hs).toArray]) (TupI.mono _) rfl rfl (by simp [Act.eval]) Try.func11 (by kernel_rfl) (by kernel_rfl) (fun w' _ _ => hdgi.out w') ?_; intro v40; go_frame; have tok8 : True := trivial)
          | (clear tok8; refine sp_rel (TupI.mono _) rfl (fun w' hw' hF => yieldsTo_val' (rn_move rfl rfl) ⟨Own.refl _, hF.2 _ rfl (List.mem_of_elem_eq_true (by kernel_rfl))⟩) ?_; intro v34; go_frame; have tok9 : True := trivial)
          | (clear tok9; refine sp_rel (IIn.mono _ _) rfl (fun w' hw' hF => ?_) ?_
             · obtain ⟨p, c, e34, h34⟩ := hF.2 _ rfl (List.mem_of_elem_eq_true (by kernel_rfl))
               exact yieldsTo_val' (rn_extract rfl e34 rfl) ⟨Own.refl _, h34⟩
             intro v41; go_frame; have tok10 : True := trivial)
          | (clear tok10; refine sp_run (v := .int .i64 0) rfl (fun w' hw' hF => ?_) ?_
             · obtain ⟨p, c, e34, h34⟩ := hF.1.2 _ rfl (List.mem_of_elem_eq_true (by kernel_rfl))
               exact rn_extract rfl e34 rfl
             go_frame; have tok11 : True := trivial)
          | (clear tok11; refine sp_rel (IIn.mono _ _) rfl (fun w' hw' hF => yieldsTo_val' (rn_assign rfl rfl) ⟨Own.refl _, hF.2 _ rfl (List.mem_of_elem_eq_true (by kernel_rfl))⟩) ?_; intro v9; go_frame)
          | (refine sp_val (fun w' hw' hF => ?_) ⟨_, rfl, Nat.le_of_ble_eq_true rfl⟩ ?_
             · go_big_quiet_step (fail)
               exact rfl
             try go_frame))
        refine sp_nil ?_
        intro w5 hw' hF
        have h9 := hF.2 _ rfl trivial
        have h9b := h9.1
        obtain ⟨p9, c9, e9⟩ := h9b
        subst e9
        obtain ⟨g9, o9, e9, _, hcl9⟩ := IIn.cellsAt h9 (by rw [← hn'.out]; exact hdl.out)
        subst e9
        have hd9 : Hid (∀ w', Own w5 w' [] → ∀ j v, (ints .i64 ds)[j]? = some v → w'.cell? ⟨g9, o9 + j, none⟩ = some v) := fun w' h j v hj => h.old (hcl9 j v hj) (by simp)
        have H := HR.out.trans hw'
        have HR5 := Lib.hid H
        clear hF h9 hcl9 hw' H HR hdgi
        rw [← hn'.out]
        simp only [List.drop_succ_cons, List.drop_zero]
        go_wp2_with fail
        refine region_grow 6 (by kernel_rfl) (by kernel_rfl) (by kernel_rfl) [.val (.slice (some ⟨b7, 0, none⟩) 4 4), .val (.int .i64 i), .val (.pointer (some ⟨b7, i, none⟩)), .val (.int .i64 k), .val (.agg (u8s hs).toArray), .rel (IIn .i64 ds)] rfl ?_
        have tok5 : True := trivial
        try go_frame
        repeat (first
          | (clear tok5; refine sp_run (v := .int .i64 k) rfl (fun w' hw' _ => rn_cell rfl rfl rfl rfl (hk7.out w' (HR5.out.trans hw'))) ?_; go_frame; have tok6 : True := trivial)
          | (clear tok6; refine sp_run (v := .agg (u8s hs).toArray) rfl (fun w' hw' _ => rn_cells rfl rfl rfl rfl hsz.out (hc3.out w' (HR5.out.trans hw'))) ?_; go_frame; have tok7 : True := trivial)
          | (clear tok7; refine sp_callR (args := #[.int .i64 k, .agg (u8s hs).toArray]) (IIn.mono _ _) rfl rfl (by simp [Act.eval]) Try.func13 (by kernel_rfl) (by kernel_rfl) (fun w' _ _ => hdri.out w') ?_; intro v48; go_frame)
          | (refine sp_val (fun w' hw' hF => ?_) ⟨_, rfl, Nat.le_of_ble_eq_true rfl⟩ ?_
             · go_big_quiet_step (fail)
               exact rfl
             try go_frame))
        refine sp_nil ?_
        intro w6 hw' hF
        have h9 := hF.2 _ rfl trivial
        have h9b := h9.1
        obtain ⟨p48, c48, e9⟩ := h9b
        subst e9
        obtain ⟨g48, o48, e9, _, hcl9⟩ := IIn.cellsAt h9 (by rw [← hn'.out]; exact hdl.out)
        subst e9
        have he9 : Hid (∀ w', Own w6 w' [] → ∀ j v, (ints .i64 ds)[j]? = some v → w'.cell? ⟨g9, o9 + j, none⟩ = some v) := fun w' h j v hj => hd9.out w' (hw'.trans h) j v hj
        have he48 : Hid (∀ w', Own w6 w' [] → ∀ j v, (ints .i64 ds)[j]? = some v → w'.cell? ⟨g48, o48 + j, none⟩ = some v) := fun w' h j v hj => h.old (hcl9 j v hj) (by simp)
        have HR6 := Lib.hid (HR5.out.trans hw')
        clear hF h9 hcl9 hw' hdri hk7 HR5 hd9
        rw [← hn'.out]
        simp only [List.drop_succ_cons, List.drop_zero]
        go_wp2_with fail
        have H := Own.refl w6
        go_loopw [4, 12] (fun v4 v12 wr => ∃ j : Nat, j ≤ n ∧ v4 = .bool false ∧ v12 = .int .i64 ((j : Nat) : Int) ∧ Own w6 wr []) (fun _ v12 _ => ((n : Nat) - intOf v12).toNat)
        case atStart => exact ⟨0, by omega, rfl, rfl, H⟩
        case round =>
          clear H
          obtain ⟨j, hj, rfl, rfl, H⟩ := hrel
          by_cases hjn : j < n
          · obtain ⟨z, hz⟩ : ∃ z, (ints .i64 ds)[j]? = some (.int .i64 z) := ⟨_, ints_get (by rw [← hn'.out]; exact hjn)⟩
            have hz1 : Hid (∀ m, (wr.drewN m).cell? ⟨g9, o9 + j, none⟩ = some (.int .i64 z)) := fun m => he9.out _ (H.drewN m) j _ hz
            have hz2 : Hid (∀ m, (wr.drewN m).cell? ⟨g48, o48 + j, none⟩ = some (.int .i64 z)) := fun m => he48.out _ (H.drewN m) j _ hz
            clear hz
            have H9 := Lib.hid (fun m => H.drewN m)
            clear H
            go_wp2_with fail
            refine region_drew 9 (by kernel_rfl) (by kernel_rfl) (by kernel_rfl) ?_
            simp only [List.take_succ_cons, List.take_zero, List.drop_succ_cons, List.drop_zero]
            try go_frame
            repeat (first
              | (refine qd_val rfl (fun m => rn_cell rfl rfl rfl rfl (hz1.out m)) ?_; go_frame)
              | (refine qd_val rfl (fun m => rn_cell rfl rfl rfl rfl (hz2.out m)) ?_; go_frame)
              | go_big_quiet_step (fail))
            refine wpQuiet_nil ?_
            rintro w' hw'
            have H := (show Own w6 w' [] by obtain ⟨m, rfl⟩ := hw'; exact H9.out m)
            clear hw' H9 hz1 hz2
            go_wp2_with fail
            exact ⟨⟨j + 1, by omega, rfl, by go_num, H⟩, by simp [intOf]; omega⟩
          · obtain rfl : j = n := by omega
            go_wp2_with fail
            exact ⟨⟨i + 1, by omega, rfl, by go_num, HR6.out.trans H⟩, by simp [intOf]; omega⟩
      · obtain rfl : i = 4 := by omega
        go_wp2_with (first
          | (go_at_call 14; refine (otold_any _).mono ?_; rintro e w5 ⟨rfl, h3⟩; have H2 := H.call0 h3; clear H h3; have H := H2; clear H2)
          | (go_at_call 15; refine (hc1.out _).mono ?_; rintro e w5 ⟨rfl, h3⟩; have H2 := H.call0 h3; clear H h3; have H := H2; clear H2)
          | (go_at_call 12; refine (hc2.out _).mono ?_; rintro e w5 ⟨rfl, h3⟩; have H2 := H.call0 h3; clear H h3; have H := H2; clear H2))
        have H' := Lib.hid ((H4.out.call0 H).end0 (by simp; omega))
        go_ret
        exact ⟨rfl, H'.out⟩
  | true =>
    have hd0 : Hid (∀ w', Calls Try.prog 11 #[.int .i64 x, .agg (u8s hs).toArray] w' fun e w'' => ∃ p c n, e = .returned (.tuple #[.slice p n c, .int .i64 0]) ∧ Own w' w'' []) := fun w' => by
      obtain ⟨k, hk, rfl⟩ := isW_cases hw
      refine (digitsT_any w' k hk hs h32 hib).mono ?_
      rintro e w2 ⟨r, rfl, ⟨p, c, rfl, _⟩, h3⟩
      exact ⟨p, c, _, rfl, h3⟩
    have hcx : 0 < chainsOf x := by have := chainsOf_pos x; rw [hw, decide_eq_true_eq] at this; exact this
    obtain ⟨cx, hcxe⟩ : ∃ c, c = chainsOf x := ⟨_, rfl⟩
    rw [← hcxe] at hc1 hc2 hcx
    clear hcxe hb hib h32 hw
    have hne : (cx == 0) = false := by rw [beq_eq_false_iff_ne]; omega
    have hne2 : ¬ cx = 0 := by omega
    go_enter Try.func3, Try.ntmps3
    have tok1 : True := trivial
    go_wp2_with (first
      | (clear tok1; refine st_new rfl (rn_box (cs := u8s hs) H rfl rfl rfl) ?_; clear H; intro b3 w1 hb3 H; have tok2 : True := trivial)
      | (refine st_val rfl (rn_loadAll (cs := u8s hs) H rfl rfl (.head _) rfl rfl hsz.out) ?_)
      | (clear tok2; go_at_call 11; refine (hd0.out _).mono ?_; rintro e w2 ⟨p1, c1, n1, rfl, h3⟩; have H2 := H.call0 h3; clear H h3; have H := H2; clear H2; have tok3 : True := trivial)
      | (clear tok3; go_at_call 12; refine (hc2.out _).mono ?_; rintro e w3 ⟨rfl, h3⟩; have H2 := H.call0 h3; clear H h3; have H := H2; clear H2; have tok4 : True := trivial)
      | (clear tok4; refine st_newG rfl (rn_buildSlice (e := 3) (cs := i64s [1, 2, 4, 8]) (Own.refl w3) rfl (fun w' => by kernel_rfl)) ?_; intro b7 w4 hb7 M; have g7 := Nat.le_trans H.size hb7; have H2 := H.callNew M hb7; clear H M; have H := H2; clear H2))
    have hc3 : Hid (∀ w', Own w4 w' [] → ∀ j v, (u8s hs)[j]? = some v → w'.cell? ⟨b3, 0 + j, none⟩ = some v) := fun w' h j v hj => by rw [(H.call0 h).cell (.tail _ (.head _)), Nat.zero_add]; exact hj
    have hc7 : Hid (∀ w', Own w4 w' [] → ∀ j v, (i64s [1, 2, 4, 8])[j]? = some v → w'.cell? ⟨b7, j, none⟩ = some v) := fun w' h j v hj => by rw [(H.call0 h).cell (.head _)]; exact hj
    have H4 := Lib.hid H
    clear H hd0
    have H := Own.refl w4
    go_loopw [4, 8, 9, 10, 11, 12] (fun v4 v8 _ _ _ _ wr => ∃ i : Nat, i ≤ 4 ∧ v4 = .bool false ∧ v8 = .int .i64 ((i : Nat) : Int) ∧ Own w4 wr []) (fun _ v8 _ _ _ _ _ => ((4 : Nat) - intOf v8).toNat)
    case atStart => exact ⟨0, by omega, rfl, rfl, H⟩
    case round =>
      clear H
      obtain ⟨i, hi, rfl, rfl, H⟩ := hrel
      by_cases hin : i < 4
      · have hk7 : Hid (∀ w', Own w4 w' [] → w'.cell? ⟨b7, i, none⟩ = some (.int .i64 (kOf i : Nat))) := fun w' h => hc7.out w' h i _ (kOf_at hin)
        have hdgi : Hid (∀ w', Calls Try.prog 11 #[.int .i64 (kOf i : Nat), .agg (u8s hs).toArray] w' fun e w'' => ∃ r, e = .returned r ∧ TupI (digits hs (kOf i)) w'' r ∧ Own w' w'' []) := fun w' => hdg.out w' i
        have hdri : Hid (∀ w', Calls Try.prog 13 #[.int .i64 (kOf i : Nat), .agg (u8s hs).toArray] w' fun e w'' => ∃ r, e = .returned r ∧ IIn .i64 (digits hs (kOf i)) w'' r ∧ Own w' w'' []) := fun w' => hdr.out w' i
        have hdl : Hid (0 < (digits hs (kOf i)).length) := by show _ < _; rw [length_digits]; have := (chN_le' (kOf i)).1; omega
        have hdl2 : (digits hs (kOf i)).length ≤ 265 := by rw [length_digits]; exact (chN_le' (kOf i)).2
        obtain ⟨ds, hds⟩ : ∃ d, d = digits hs (kOf i) := ⟨_, rfl⟩
        rw [← hds] at hdgi hdri hdl hdl2
        obtain ⟨k, hk⟩ : ∃ k, k = kOf i := ⟨_, rfl⟩
        rw [← hk] at hk7 hdgi hdri
        clear hds hk
        obtain ⟨n, hn⟩ : ∃ n, n = ds.length := ⟨_, rfl⟩
        have hn' := Lib.hid hn
        rw [← hn] at hdl hdl2
        clear hn
        have HR := Lib.hid H
        clear H
        go_wp2_with fail
        refine region_grow 10 (by kernel_rfl) (by kernel_rfl) (by kernel_rfl) [.val (.slice (some ⟨b7, 0, none⟩) 4 4), .val (.int .i64 i), .val (.pointer (some ⟨b7, i, none⟩)), .val (.int .i64 k), .val (.agg (u8s hs).toArray), .rel (TupI ds), .rel (TupI ds), .rel (IIn .i64 ds), .val (.int .i64 0), .rel (IIn .i64 ds)] rfl ?_
        have tok5 : True := trivial
        try go_frame
        repeat (first
          | (clear tok5; refine sp_run (v := .int .i64 k) rfl (fun w' hw' _ => rn_cell rfl rfl rfl rfl (hk7.out w' (HR.out.trans hw'))) ?_; go_frame; have tok6 : True := trivial)
          | (clear tok6; refine sp_run (v := .agg (u8s hs).toArray) rfl (fun w' hw' _ => rn_cells rfl rfl rfl rfl hsz.out (hc3.out w' (HR.out.trans hw'))) ?_; go_frame; have tok7 : True := trivial)
          | (clear tok7; refine sp_callR (args := #[.int .i64 k, .agg (u8s hs).toArray]) (TupI.mono _) rfl rfl (by simp [Act.eval]) Try.func11 (by kernel_rfl) (by kernel_rfl) (fun w' _ _ => hdgi.out w') ?_; intro v40; go_frame; have tok8 : True := trivial)
          | (clear tok8; refine sp_rel (TupI.mono _) rfl (fun w' hw' hF => yieldsTo_val' (rn_move rfl rfl) ⟨Own.refl _, hF.2 _ rfl (List.mem_of_elem_eq_true (by kernel_rfl))⟩) ?_; intro v34; go_frame; have tok9 : True := trivial)
          | (clear tok9; refine sp_rel (IIn.mono _ _) rfl (fun w' hw' hF => ?_) ?_
             · obtain ⟨p, c, e34, h34⟩ := hF.2 _ rfl (List.mem_of_elem_eq_true (by kernel_rfl))
               exact yieldsTo_val' (rn_extract rfl e34 rfl) ⟨Own.refl _, h34⟩
             intro v41; go_frame; have tok10 : True := trivial)
          | (clear tok10; refine sp_run (v := .int .i64 0) rfl (fun w' hw' hF => ?_) ?_
             · obtain ⟨p, c, e34, h34⟩ := hF.1.2 _ rfl (List.mem_of_elem_eq_true (by kernel_rfl))
               exact rn_extract rfl e34 rfl
             go_frame; have tok11 : True := trivial)
          | (clear tok11; refine sp_rel (IIn.mono _ _) rfl (fun w' hw' hF => yieldsTo_val' (rn_assign rfl rfl) ⟨Own.refl _, hF.2 _ rfl (List.mem_of_elem_eq_true (by kernel_rfl))⟩) ?_; intro v9; go_frame)
          | (refine sp_val (fun w' hw' hF => ?_) ⟨_, rfl, Nat.le_of_ble_eq_true rfl⟩ ?_
             · go_big_quiet_step (fail)
               exact rfl
             try go_frame))
        refine sp_nil ?_
        intro w5 hw' hF
        have h9 := hF.2 _ rfl trivial
        have h9b := h9.1
        obtain ⟨p9, c9, e9⟩ := h9b
        subst e9
        obtain ⟨g9, o9, e9, _, hcl9⟩ := IIn.cellsAt h9 (by rw [← hn'.out]; exact hdl.out)
        subst e9
        have hd9 : Hid (∀ w', Own w5 w' [] → ∀ j v, (ints .i64 ds)[j]? = some v → w'.cell? ⟨g9, o9 + j, none⟩ = some v) := fun w' h j v hj => h.old (hcl9 j v hj) (by simp)
        have H := HR.out.trans hw'
        have HR5 := Lib.hid H
        clear hF h9 hcl9 hw' H HR hdgi
        rw [← hn'.out]
        simp only [List.drop_succ_cons, List.drop_zero]
        go_wp2_with fail
        refine region_grow 6 (by kernel_rfl) (by kernel_rfl) (by kernel_rfl) [.val (.slice (some ⟨b7, 0, none⟩) 4 4), .val (.int .i64 i), .val (.pointer (some ⟨b7, i, none⟩)), .val (.int .i64 k), .val (.agg (u8s hs).toArray), .rel (IIn .i64 ds)] rfl ?_
        have tok5 : True := trivial
        try go_frame
        repeat (first
          | (clear tok5; refine sp_run (v := .int .i64 k) rfl (fun w' hw' _ => rn_cell rfl rfl rfl rfl (hk7.out w' (HR5.out.trans hw'))) ?_; go_frame; have tok6 : True := trivial)
          | (clear tok6; refine sp_run (v := .agg (u8s hs).toArray) rfl (fun w' hw' _ => rn_cells rfl rfl rfl rfl hsz.out (hc3.out w' (HR5.out.trans hw'))) ?_; go_frame; have tok7 : True := trivial)
          | (clear tok7; refine sp_callR (args := #[.int .i64 k, .agg (u8s hs).toArray]) (IIn.mono _ _) rfl rfl (by simp [Act.eval]) Try.func13 (by kernel_rfl) (by kernel_rfl) (fun w' _ _ => hdri.out w') ?_; intro v48; go_frame)
          | (refine sp_val (fun w' hw' hF => ?_) ⟨_, rfl, Nat.le_of_ble_eq_true rfl⟩ ?_
             · go_big_quiet_step (fail)
               exact rfl
             try go_frame))
        refine sp_nil ?_
        intro w6 hw' hF
        have h9 := hF.2 _ rfl trivial
        have h9b := h9.1
        obtain ⟨p48, c48, e9⟩ := h9b
        subst e9
        obtain ⟨g48, o48, e9, _, hcl9⟩ := IIn.cellsAt h9 (by rw [← hn'.out]; exact hdl.out)
        subst e9
        have he9 : Hid (∀ w', Own w6 w' [] → ∀ j v, (ints .i64 ds)[j]? = some v → w'.cell? ⟨g9, o9 + j, none⟩ = some v) := fun w' h j v hj => hd9.out w' (hw'.trans h) j v hj
        have he48 : Hid (∀ w', Own w6 w' [] → ∀ j v, (ints .i64 ds)[j]? = some v → w'.cell? ⟨g48, o48 + j, none⟩ = some v) := fun w' h j v hj => h.old (hcl9 j v hj) (by simp)
        have HR6 := Lib.hid (HR5.out.trans hw')
        clear hF h9 hcl9 hw' hdri hk7 HR5 hd9
        rw [← hn'.out]
        simp only [List.drop_succ_cons, List.drop_zero]
        go_wp2_with fail
        have H := Own.refl w6
        go_loopw [4, 12] (fun v4 v12 wr => ∃ j : Nat, j ≤ n ∧ v4 = .bool false ∧ v12 = .int .i64 ((j : Nat) : Int) ∧ Own w6 wr []) (fun _ v12 _ => ((n : Nat) - intOf v12).toNat)
        case atStart => exact ⟨0, by omega, rfl, rfl, H⟩
        case round =>
          clear H
          obtain ⟨j, hj, rfl, rfl, H⟩ := hrel
          by_cases hjn : j < n
          · obtain ⟨z, hz⟩ : ∃ z, (ints .i64 ds)[j]? = some (.int .i64 z) := ⟨_, ints_get (by rw [← hn'.out]; exact hjn)⟩
            have hz1 : Hid (∀ m, (wr.drewN m).cell? ⟨g9, o9 + j, none⟩ = some (.int .i64 z)) := fun m => he9.out _ (H.drewN m) j _ hz
            have hz2 : Hid (∀ m, (wr.drewN m).cell? ⟨g48, o48 + j, none⟩ = some (.int .i64 z)) := fun m => he48.out _ (H.drewN m) j _ hz
            clear hz
            have H9 := Lib.hid (fun m => H.drewN m)
            clear H
            go_wp2_with fail
            refine region_drew 9 (by kernel_rfl) (by kernel_rfl) (by kernel_rfl) ?_
            simp only [List.take_succ_cons, List.take_zero, List.drop_succ_cons, List.drop_zero]
            try go_frame
            repeat (first
              | (refine qd_val rfl (fun m => rn_cell rfl rfl rfl rfl (hz1.out m)) ?_; go_frame)
              | (refine qd_val rfl (fun m => rn_cell rfl rfl rfl rfl (hz2.out m)) ?_; go_frame)
              | go_big_quiet_step (fail))
            refine wpQuiet_nil ?_
            rintro w' hw'
            have H := (show Own w6 w' [] by obtain ⟨m, rfl⟩ := hw'; exact H9.out m)
            clear hw' H9 hz1 hz2
            go_wp2_with fail
            exact ⟨⟨j + 1, by omega, rfl, by go_num, H⟩, by simp [intOf]; omega⟩
          · obtain rfl : j = n := by omega
            go_wp2_with fail
            exact ⟨⟨i + 1, by omega, rfl, by go_num, HR6.out.trans H⟩, by simp [intOf]; omega⟩
      · obtain rfl : i = 4 := by omega
        go_wp2_with (first
          | (go_at_call 14; refine (otold_any _).mono ?_; rintro e w5 ⟨rfl, h3⟩; have H2 := H.call0 h3; clear H h3; have H := H2; clear H2)
          | (go_at_call 15; refine (hc1.out _).mono ?_; rintro e w5 ⟨rfl, h3⟩; have H2 := H.call0 h3; clear H h3; have H := H2; clear H2)
          | (go_at_call 12; refine (hc2.out _).mono ?_; rintro e w5 ⟨rfl, h3⟩; have H2 := H.call0 h3; clear H h3; have H := H2; clear H2))
        have H' := Lib.hid ((H4.out.call0 H).end0 (by simp; omega))
        go_ret
        exact ⟨rfl, H'.out⟩

end Go.Proofs.Ytokichlmgepdpaa
