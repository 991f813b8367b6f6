/- chirographlaw15.told, chirographlaw13.Secret. -/
import Derived.Test.YtfihlmnbonnekaaKey
namespace Go.Proofs.Ytfihlmnbonnekaa
open Go.RowKit

set_option maxRecDepth 100000 in
set_option maxHeartbeats 8000000 in
theorem ktold_any (w : World) : Calls Try.prog 16 #[] w fun e w' => e = .returned (.bool true) ∧ Own w w' [] := by
  have H := Own.refl w
  have h1 : Hid (∀ w', Calls Try.prog 11 #[.agg (u8s (List.replicate 48 0)).toArray, .int .i64 3, .int .i64 0] w' fun e w'' => e = .returned (.tuple #[.pointer none, .int .i64 1]) ∧ Own w' w'' []) := fun w' => knew_w w' _ (by simp) 3 0 (by decide)
  have h2 : Hid (∀ w', Calls Try.prog 11 #[.agg (u8s (List.replicate 48 0)).toArray, .int .i64 2, .int .i64 33] w' fun e w'' => e = .returned (.tuple #[.pointer none, .int .i64 1]) ∧ Own w' w'' []) := fun w' => knew_u w' _ (by simp) 2 (by omega) 33 (by omega)
  have h3 : Hid (∀ w', Calls Try.prog 11 #[.agg (u8s (List.replicate 48 0)).toArray, .int .i64 2, .int .i64 32] w' fun e w'' => ∃ kb tb, e = .returned (.tuple #[.pointer (some ⟨kb, 0, none⟩), .int .i64 0]) ∧ w'.heap.size ≤ kb ∧ w'.heap.size ≤ tb ∧ Own w' w'' [(kb, sgC tb 32 32, 74), (tb, treeG (List.replicate 48 0) 2 0 0 (List.replicate 2048 0) 0, 104)]) := fun w' => knew_any w' _ (by simp) 2 (by omega) 32 (by omega) (by omega)
  have h4 := Lib.hid (fun w' kb h => ksign_empty w' kb 32 (.slice none 0 0) h (by omega))
  have h5 := Lib.hid (fun w' => ksign_nil w' (.slice none 0 0))
  have h6 := Lib.hid (fun w' kb h => knext_any w' kb 32 h)
  have h7 := Lib.hid (fun w' kb h => kresd_any w' kb 32 h)
  have h8 := Lib.hid knext_nil
  have h9 := Lib.hid kresd_nil
  have h10 := Lib.hid (fun w' => kreserve_nil w' 1)
  have h11 := Lib.hid kpub_nil
  go_enter Try.func16, Try.ntmps16
  have tok1 : True := trivial
  go_wp2_with (first
    | (clear tok1; go_at_call 11; refine (h1.out _).mono ?_; rintro e w1 ⟨rfl, h3⟩; have H2 := H.call0 h3; clear H h3; have H := H2; clear H2; have tok2 : True := trivial)
    | (clear tok2; go_at_call 11; refine (h2.out _).mono ?_; rintro e w2 ⟨rfl, h3⟩; have H2 := H.call0 h3; clear H h3; have H := H2; clear H2; have tok3 : True := trivial)
    | (clear tok3; go_at_call 11; refine (h3.out _).mono ?_; rintro e w3 ⟨kb, tb, rfl, hkb, htb, h⟩; have HB := Lib.hid H; have K3 := Lib.hid h; clear H h; have H := Own.refl w3; have tok4 : True := trivial)
    | (clear tok4; go_at_call 14; refine (h4.out _ _ ((K3.out.call0 H).cell (.head _) 1)).mono ?_; rintro e w4 ⟨rfl, h3⟩; have H2 := H.call0 h3; clear H h3; have H := H2; clear H2; have tok5 : True := trivial)
    | (clear tok5; go_at_call 14; refine (h5.out _).mono ?_; rintro e w5 ⟨rfl, h3⟩; have H2 := H.call0 h3; clear H h3; have H := H2; clear H2; have tok6 : True := trivial)
    | (clear tok6; go_at_call 15; refine (h6.out _ _ ((K3.out.call0 H).cell (.head _) 1)).mono ?_; rintro e w6 ⟨rfl, h3⟩; have H2 := H.call0 h3; clear H h3; have H := H2; clear H2; have tok7 : True := trivial)
    | (clear tok7; go_at_call 21; refine (h7.out _ _ ((K3.out.call0 H).cell (.head _) 2)).mono ?_; rintro e w7 ⟨rfl, h3⟩; have H2 := H.call0 h3; clear H h3; have H := H2; clear H2; have tok8 : True := trivial)
    | (clear tok8; go_at_call 15; refine (h8.out _).mono ?_; rintro e w8 ⟨rfl, h3⟩; have H2 := H.call0 h3; clear H h3; have H := H2; clear H2; have tok9 : True := trivial)
    | (clear tok9; go_at_call 21; refine (h9.out _).mono ?_; rintro e w9 ⟨rfl, h3⟩; have H2 := H.call0 h3; clear H h3; have H := H2; clear H2; have tok10 : True := trivial)
    | (clear tok10; go_at_call 13; refine (h10.out _).mono ?_; rintro e w10 ⟨rfl, h3⟩; have H2 := H.call0 h3; clear H h3; have H := H2; clear H2; have tok11 : True := trivial)
    | (clear tok11; go_at_call 22; refine (h11.out _).mono ?_; rintro e w11 ⟨rfl, h3⟩; have H2 := H.call0 h3; clear H h3; have H := H2; clear H2; have tok12 : True := trivial))
  have HE := Lib.hid (HB.out.trans ((K3.out.call0 H).end0 (by simp; omega)))
  clear H
  go_ret
  exact ⟨rfl, HE.out⟩
theorem st_yields {P : Program} {ops : Array Oper} {rest : List Oper} {o : Oper} {a : Act} {w : World} {Q : Exit → Act → World → Prop} {R : Value → World → Prop} (hg : o.guard = none) (hy : YieldsTo P o a w R) (h : ∀ v w', R v w' → wpList P ops Q rest (a.put o.dst v) w') : wpList P ops Q (o :: rest) a w :=
  wpList_plain hg fun _ hK => hy.wp fun v w' hR => hK _ _ (h v w' hR)
theorem rn_arrTo {P : Program} {o : Oper} {a : Act} {w : World} {t : TypeId} {x hi : Operand} (ho : o.op = .slice t x none (some hi) none) {n e : Nat} (hu : P.underlying t = some (.array n e)) (hs : (P.info? e).map (·.size) = some 1) {b i h : Nat} (hx : a.eval x = .pointer (some ⟨b, i, none⟩)) {k : IntKind} {z : Int} (hz : a.eval hi = .int k z) (hzh : z = (h : Int)) (h2 : h ≤ n) (hn : 0 < n) :
    (execOp a.eval o).run P w = .ok (.value (.slice (some ⟨b, i, none⟩) h n)) w := by
  have h1 := rn_sliceArr (w := w) (l := 0) (h := h) ho hu hs hx (by exact .no _) (by rw [Option.map_some, hz]; exact .yes hzh) (Nat.zero_le _) h2
  rw [if_neg (by omega)] at h1
  simpa using h1
theorem sec_splice {x : List Int} (h : x.length = 32) : splice (u8s (List.replicate 48 0)) 0 ((u8s (x.take 16)).take 16) = u8s (x.take 16 ++ List.replicate 32 0) := by
  have h1 : (x.take 16).length = 16 := by rw [List.length_take, h]; rfl
  rw [List.take_of_length_le (by rw [length_ints, h1]; omega)]
  unfold splice
  rw [length_ints, h1]
  simp [ints]
theorem sec_splice2 {x y : List Int} (h : x.length = 16) (hy : y.length = 32) : splice (u8s (x ++ List.replicate 32 0)) 16 (u8s y) = u8s (x ++ y) := by
  unfold splice
  rw [length_ints, hy, u8s_app, u8s_app, List.take_left' (by rw [length_ints, h]), List.drop_eq_nil_of_le (by simp [h]), List.append_nil]
theorem take_get {x : List Int} {n j : Nat} {v : Value} (h : (u8s (x.take n))[j]? = some v) : (u8s x)[j]? = some v := by
  have h : ((x.take n).map (Value.int .u8))[j]? = some v := h
  show (x.map (Value.int .u8))[j]? = some v
  rw [List.map_take, List.getElem?_take] at h
  split at h
  · exact h
  · cases h
set_option maxRecDepth 100000 in
set_option maxHeartbeats 8000000 in
theorem secret13_w (w : World) (x y : Int) (HH A : List Int) (hA : A = [[115, 101, 99, 114, 101, 116], numB (IntKind.u64.wrap x) 8, numB (IntKind.u64.wrap y) 8].flatten) (hH : HH = sha A) (D : List Int) (hD : D = sha HH) :
    Calls Try.prog 12 #[.int .i64 x, .int .i64 y] w fun e w' => e = .returned (.agg (u8s (HH.take 16 ++ D)).toArray) ∧ Own w w' [] := by
  have H := Own.refl w
  have hcat : Hid (∀ w' v, LitL [[115, 101, 99, 114, 101, 116], numB (IntKind.u64.wrap x) 8, numB (IntKind.u64.wrap y) 8] w' v → Calls Try.prog 40 #[v] w' fun e w'' => ∃ r, e = .returned r ∧ BIn A w'' r ∧ Own w' w'' []) := fun w' v h => by
    rw [hA]
    exact catL_any w' v _ h (by simp [length_numB]) (by simp)
  have hAl : A.length ≤ 100 := by rw [hA]; simp [length_numB]
  have hsum : Hid (∀ w' v, BIn A w' v → Calls Try.prog 39 #[v] w' fun e w'' => e = .returned (.agg (u8s HH).toArray) ∧ Own w' w'' []) := fun w' v h => by
    rw [hH]
    exact refSum_any w' v A h.2.1 h.2.2 (by omega)
  have hHl : HH.length = 32 := by rw [hH]; exact length_sha _
  have hDl : D.length = 32 := by rw [hD]; exact length_sha _
  have hsum2 : Hid (∀ w' v, BIn HH w' v → Calls Try.prog 39 #[v] w' fun e w'' => e = .returned (.agg (u8s D).toArray) ∧ Own w' w'' []) := fun w' v h => by
    rw [hD]
    exact refSum_any w' v HH h.2.1 h.2.2 (by omega)
  obtain ⟨N1, hN1⟩ : ∃ N, N = numB (IntKind.u64.wrap x) 8 := ⟨_, rfl⟩
  obtain ⟨N2, hN2⟩ : ∃ N, N = numB (IntKind.u64.wrap y) 8 := ⟨_, rfl⟩
  have hn1 : Hid (∀ w', Calls Try.prog 18 #[.int .u64 (IntKind.u64.wrap x), .int .i64 8] w' fun e w'' => ∃ r, e = .returned r ∧ BIn N1 w'' r ∧ Own w' w'' []) := fun w' => by rw [hN1]; exact refNum_any w' _ 8 (by omega) (by omega)
  have hn2 : Hid (∀ w', Calls Try.prog 18 #[.int .u64 (IntKind.u64.wrap y), .int .i64 8] w' fun e w'' => ∃ r, e = .returned r ∧ BIn N2 w'' r ∧ Own w' w'' []) := fun w' => by rw [hN2]; exact refNum_any w' _ 8 (by omega) (by omega)
  have hb1 : Hid (IsBytes N1) := by show IsBytes _; rw [hN1]; exact isBytes_numB _ _
  have hb2 : Hid (IsBytes N2) := by show IsBytes _; rw [hN2]; exact isBytes_numB _ _
  rw [← hN1, ← hN2] at hcat
  have hb0 : Hid (IsBytes [115, 101, 99, 114, 101, 116]) := isBytes_mem.2 (by simp)
  have hHl' := Lib.hid hHl
  have hDl' := Lib.hid hDl
  have hsp := Lib.hid (sec_splice hHl)
  have hsp2 := Lib.hid (sec_splice2 (x := HH.take 16) (by rw [List.length_take, hHl]; rfl) hDl)
  have ht16 : Hid ((HH.take 16).length = 16) := by show _ = _; rw [List.length_take, hHl]; rfl
  have hD16 : Hid ((HH.take 16 ++ D).length = 48) := by show _ = _; rw [List.length_append, ht16.out, hDl]
  clear hA hH hD hAl hHl hDl hN1 hN2
  go_enter Try.func12, Try.ntmps12
  have tok1 : True := trivial
  go_wp2_with (first
    | (clear tok1; refine st_new rfl (rn_alloc (cs := u8s (List.replicate 48 0)) H rfl (by kernel_rfl)) ?_; clear H; intro b4 w1 hb4 H; have tok2 : True := trivial)
    | (clear tok2; refine st_new rfl (rn_alloc (cs := u8s (List.replicate 48 0)) H rfl (by kernel_rfl)) ?_; clear H; intro b5 w2 hb5 H; have tok3 : True := trivial)
    | (clear tok3; refine st_new rfl (rn_buildSlice (e := 5) (cs := u8s [115, 101, 99, 114, 101, 116]) H rfl (fun w' => by kernel_rfl)) ?_; clear H; intro b7 w3 hb7 H; have tok4 : True := trivial)
    | (clear tok4; refine st_conv rfl H hb7 rfl rfl rfl rfl rfl ?_; intro w4 hby hlt H4; have B0 : Hid (BIn [115, 101, 99, 114, 101, 116] w4 (.slice (some ⟨b7, 0, none⟩) 6 6)) := ⟨⟨_, _, rfl⟩, hby, fun k hk => by obtain rfl := (blk_some hk).1; exact hlt⟩; clear H hby hlt hb7; have H := H4; clear H4; have HB := Lib.hid H; clear H; have H := Own.refl w4; have tok5 : True := trivial)
    | (clear tok5; go_at_call 18; refine (hn1.out _).mono ?_; rintro e w5 ⟨r1, rfl, hr, h3⟩; obtain ⟨⟨p1, c1, e1⟩, hr2⟩ := id hr; subst e1; clear hr2; have R1' := Lib.hid hr; have H2 := H.call0 h3; have B5 := Lib.hid (BIn.mono _ _ _ _ H2 B0.out); clear H h3 hr B0; have H := H2; clear H2; have tok6 : True := trivial)
    | (clear tok6; go_at_call 18; refine (hn2.out _).mono ?_; rintro e w6 ⟨r2, rfl, hr, h3⟩; obtain ⟨⟨p2, c2, e2⟩, hr2⟩ := id hr; subst e2; clear hr2; have R2' := Lib.hid hr; have H2 := H.call0 h3; have B6 := Lib.hid (BIn.mono _ _ _ _ h3 B5.out); have R16 := Lib.hid (BIn.mono _ _ _ _ h3 R1'.out); clear H h3 hr B5 R1'; have H := H2; clear H2; have tok7 : True := trivial)
    | (clear tok7; refine st_yields rfl (litL_build (e := 33) (l := [(.slice (some ⟨b7, 0, none⟩) 6 6, [115, 101, 99, 114, 101, 116]), (.slice p1 N1.length c1, N1), (.slice p2 N2.length c2, N2)]) rfl rfl rfl (fun z hz => by simp only [List.mem_cons, List.not_mem_nil, or_false] at hz; rcases hz with rfl | rfl | rfl; exact ⟨B6.out, hb0.out⟩; exact ⟨R16.out, hb1.out⟩; exact ⟨R2'.out, hb2.out⟩) (fun w' => by kernel_rfl)) ?_; rintro v15 w7 ⟨h3, hL⟩; have L7 := Lib.hid hL; have H2 := H.call0 h3; clear H h3 hL; have H := H2; clear H2; have tok8 : True := trivial)
    | (clear tok8; go_at_call 40; refine (hcat.out _ _ L7.out).mono ?_; rintro e w8 ⟨r3, rfl, hr, h3⟩; have R8 := Lib.hid hr; have H2 := H.call0 h3; clear H h3 hr; have H := H2; clear H2; have tok9 : True := trivial)
    | (clear tok9; go_at_call 39; refine (hsum.out _ _ R8.out).mono ?_; rintro e w9 ⟨rfl, h3⟩; have H2 := H.call0 h3; clear H h3; have H := H2; clear H2; have tok10 : True := trivial)
    | (clear tok10; have H2 := HB.out.call0 H; clear H HB; have H := H2; clear H2; refine st_new rfl (rn_alloc H rfl info_hash) ?_; clear H; intro b6 w10 hb6 H; have tok11 : True := trivial)
    | (clear tok11; refine st_skip rfl (rn_storeAll (vs := u8s HH) H rfl rfl rfl (size_hashL hHl'.out) .head (by rw [length_ints, length_ints, hHl'.out]; rfl) (oneCell_ints _ _)) ?_; clear H; intro w11 H; have tok12 : True := trivial))
  refine region_drew 3 (by kernel_rfl) (by kernel_rfl) (by kernel_rfl) ?_
  simp only [List.take_succ_cons, List.take_zero, List.drop_succ_cons, List.drop_zero]
  try go_frame
  repeat (first
    | (refine qd_val rfl (fun m => rn_sliceAll rfl rfl size_u8 rfl (by omega)) ?_; go_frame)
    | (refine qd_val rfl (fun m => rn_arrTo (h := 16) rfl rfl size_u8 rfl rfl rfl (by omega) (by omega)) ?_; go_frame)
    | go_big_quiet_step (fail))
  refine wpQuiet_nil ?_
  rintro w' hw'
  have H' := H
  clear H
  have H := (show Own w w' _ by obtain ⟨m, rfl⟩ := hw'; exact H'.drewN m)
  clear H' hw'
  have tok1 : True := trivial
  go_wp2_with (first
    | (clear tok1; refine st_both rfl (rn_copy (sv := .slice (some ⟨b6, 0, none⟩) 16 32) (xs := u8s (HH.take 16)) (k := 16) H rfl rfl size_u8 rfl rfl (by have h := (Own.binAt (o := 0) (n := 16) (m := 32) (x := HH.take 16) H (.head _) (fun j v hj => by rw [Nat.zero_add]; exact take_get hj) ht16.out.symm (by omega)).2.1; rw [BytesAt, ht16.out] at h; exact h) (by rw [length_ints, ht16.out]) (.tail (.head)) (by simp) (oneCell_ints _ _) rfl) ?_; clear H; intro w12 H; rw [hsp.out] at H; have tok2 : True := trivial)
    | (clear tok2; refine st_val rfl (rn_sliceAll rfl rfl size_u8 rfl (by omega)) ?_; have tok3 : True := trivial)
    | (clear tok3; go_at_call 39; refine (hsum2.out _ _ (Own.binAt (o := 0) (n := 32) (m := 32) (x := HH) H (.head _) (fun j v hj => by rw [Nat.zero_add]; exact hj) hHl'.out.symm (by omega))).mono ?_; rintro e w13 ⟨rfl, h3⟩; have H2 := H.call0 h3; clear H h3; have H := H2; clear H2; have tok4 : True := trivial)
    | (clear tok4; refine st_skip rfl (rn_storeRow (vs := u8s D) H rfl rfl rfl (size_hashL hDl'.out) (by rw [hsp2.out]; exact .tail (.head)) (by simp [hDl'.out, ht16.out]) (oneCell_ints _ _)) ?_; clear H; intro w14 H; have tok5 : True := trivial)
    | (clear tok5; refine st_val rfl (rn_loadAll (cs := u8s (HH.take 16 ++ D)) H rfl rfl (.tail _ (.head _)) rfl rfl (by rw [length_ints, hD16.out]; exact size_secret)) ?_; have tok6 : True := trivial)
    | (clear tok6; refine st_skip rfl (rn_storeAll (vs := u8s (HH.take 16 ++ D)) H rfl rfl rfl (by rw [length_ints, hD16.out]; exact size_secret) (.tail (.tail .head)) (by rw [length_ints, length_ints, hD16.out]; rfl) (oneCell_ints _ _)) ?_; clear H; intro w15 H; have tok7 : True := trivial))
  refine fin_cell (cs := u8s (HH.take 16 ++ D)) rfl H rfl (.tail _ (.tail _ (.head _))) rfl rfl (by rw [length_ints, hD16.out]; exact size_secret) rfl ⟨rfl, H.end0 (by simp; omega)⟩
theorem secret13_any (x y : Int) : ∃ id sd : List Int, id.length = 16 ∧ sd.length = 32 ∧ IsBytes id ∧ IsBytes sd ∧ ∀ w, Calls Try.prog 12 #[.int .i64 x, .int .i64 y] w fun e w' => e = .returned (.agg (u8s (id ++ sd)).toArray) ∧ Own w w' [] :=
  ⟨_, _, by rw [List.length_take, length_sha]; rfl, length_sha _, isBytes_take (isBytes_sha _) 16, isBytes_sha _, fun w => secret13_w w x y _ _ rfl rfl _ rfl⟩

end Go.Proofs.Ytfihlmnbonnekaa
