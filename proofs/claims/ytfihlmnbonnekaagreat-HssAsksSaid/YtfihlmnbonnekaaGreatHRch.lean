/- the document's Child; chirographlaw5.HssChild. -/
import Derived.Test.YtfihlmnbonnekaaGreatHKey
import Derived.Test.YtfihlmnbonnekaaGreatHReg
namespace Go.Proofs.YtfihlmnbonnekaaGreat
open Go.RowKit
set_option maxHeartbeats 32000000
theorem wrap32 (x : Int) : IntKind.u32.wrap x = x % 4294967296 := by
 simp only [IntKind.wrap, IntKind.bits, IntKind.signed]
 simp
theorem wrap64u (x : Int) : IntKind.u64.wrap x = x % 18446744073709551616 := by
 simp only [IntKind.wrap, IntKind.bits, IntKind.signed]
 simp
theorem numB_wrap (x : Int) (q : Nat) (hx : IntKind.u32.wrap x = (q : Int)) : numB (IntKind.u64.wrap x) 4 = numB (q : Int) 4 := by
 rw [← hx, wrap32, wrap64u]
 simp only [numB, List.range_succ, List.range_zero, List.nil_append, List.map_cons, List.map_nil, List.cons_append]
 have e3 : (2 : Int) ^ (8 * (4 - 1 - 0)) = 16777216 := by decide
 have e2 : (2 : Int) ^ (8 * (4 - 1 - 1)) = 65536 := by decide
 have e1 : (2 : Int) ^ (8 * (4 - 1 - 2)) = 256 := by decide
 have e0 : (2 : Int) ^ (8 * (4 - 1 - 3)) = 1 := by decide
 rw [e3, e2, e1, e0]
 congr 1
 · omega
 congr 1
 · omega
 congr 1
 · omega
 congr 1
 omega
theorem sec_spl {x : List Int} (h : x.length = 32) : splice (u8s (List.replicate 48 0)) 0 ((u8s (x.take 16)).take 16) = u8s (x.take 16 ++ List.replicate 32 0) := by
 have h1 : (x.take 16).length = 16 := by rw [List.length_take, h]; rfl
 rw [List.take_of_length_le (by rw [length_ints, h1]; omega)]
 unfold splice
 rw [length_ints, h1]
 simp [ints]
theorem sec_spl2 {x y : List Int} (h : x.length = 16) (hy : y.length = 32) : splice (u8s (x ++ List.replicate 32 0)) 16 (u8s y) = u8s (x ++ y) := by
 unfold splice
 rw [length_ints, hy, u8s_app, u8s_app, List.take_left' (by rw [length_ints, h]), List.drop_eq_nil_of_le (by simp [h]), List.append_nil]
set_option maxRecDepth 100000 in
theorem rchild_any (w : World) (id sd : List Int) (h16 : id.length = 16) (h32 : sd.length = 32) (hid : IsBytes id) (hsd : IsBytes sd) (x : Int) (q : Nat) (hx : IntKind.u32.wrap x = (q : Int)) :
 Calls Tryz.prog 59 #[.agg (u8s (id ++ sd)).toArray, .int .i64 x] w fun e w' => e = .returned (.agg (u8s (cidOf id sd q ++ csdOf id sd q)).toArray) ∧ Own w w' [] := by
 have H := Own.refl w
 have hsz48 := Hh (size_secretL h16 h32)
 have hse : ∀ n : Nat, sha (frontZ id (IntKind.u64.wrap x) ++ numB n 2 ++ 255 :: sd) = secretOf id sd q n := fun n => by
  unfold secretOf pre22 frontZ
  rw [numB_wrap x q hx]
 have hs1 : Hid (∀ w', Calls Tryz.prog 65 #[.agg (u8s (id ++ sd)).toArray, .int .i64 x, .int .i64 65535] w' fun e w'' => e = .returned (.agg (u8s (secretOf id sd q 65535)).toArray) ∧ Own w' w'' []) := fun w' => by
  have h := secretZ_any w' id sd h16 h32 hid hsd x 65535 (by omega)
  rwa [hse 65535] at h
 have hs2 : Hid (∀ w', Calls Tryz.prog 65 #[.agg (u8s (id ++ sd)).toArray, .int .i64 x, .int .i64 65534] w' fun e w'' => e = .returned (.agg (u8s (csdOf id sd q)).toArray) ∧ Own w' w'' []) := fun w' => by
  have h := secretZ_any w' id sd h16 h32 hid hsd x 65534 (by omega)
  rwa [hse 65534] at h
 have hl1 : Hid ((secretOf id sd q 65535).length = 32) := length_sha _
 have hl2 := Hh (length_csdOf id sd q)
 have hl3 := Hh (length_cidOf id sd q)
 have hcd : cidOf id sd q = (secretOf id sd q 65535).take 16 := rfl
 obtain ⟨X, hX⟩ : ∃ X, X = secretOf id sd q 65535 := ⟨_, rfl⟩
 obtain ⟨D, hD⟩ : ∃ D, D = csdOf id sd q := ⟨_, rfl⟩
 rw [← hX] at hs1 hl1 hcd
 rw [hcd] at hl3 ⊢
 rw [← hD] at hs2 hl2 ⊢
 have hsp := Hh (sec_spl hl1.out)
 have hsp2 := Hh (sec_spl2 (x := X.take 16) hl3.out hl2.out)
 have hl48 : Hid ((X.take 16 ++ D).length = 48) := by show _ = _; rw [List.length_append, hl3.out, hl2.out]
 clear h16 h32 hX hD hcd hse hid hsd hx
 go_enter Tryz.func59, Tryz.ntmps59
 have z1 := tt
 go_wp2_with (first
  | (clear z1; refine st_new rfl (rn_box (cs := u8s (id ++ sd)) H rfl rfl rfl) ?_; clear H; intro b2 w1 hb2 H; have z2 := tt)
  | (clear z2; refine st_new rfl (rn_alloc (cs := u8s (List.replicate 48 0)) H rfl (by kernel_rfl)) ?_; clear H; intro b4 w2 hb4 H; have z3 := tt)
  | (clear z3; refine st_new rfl (rn_alloc (cs := u8s (List.replicate 48 0)) H rfl (by kernel_rfl)) ?_; clear H; intro b5 w3 hb5 H; have z4 := tt)
  | (clear z4; refine st_val rfl (rn_loadAll (cs := u8s (id ++ sd)) H rfl rfl (.tail _ (.tail _ (.head _))) rfl rfl hsz48.out) ?_; have z5 := tt)
  | (clear z5; go_at_call 65; refine (hs1.out _).mono ?_; rintro e w4 ⟨rfl, h3⟩; replace H := H.call0 h3; clear h3; have z6 := tt)
  | (clear z6; refine st_new rfl (rn_alloc H rfl info_hash) ?_; clear H; intro b6 w5 hb6 H; have z7 := tt)
  | (clear z7; refine st_skip rfl (rn_storeAll (vs := u8s X) H rfl rfl rfl (size_hashL hl1.out) .head (by rw [length_ints, length_ints, hl1.out]; rfl) (oneCell_ints _ _)) ?_; clear H; intro w6 H; have z8 := tt))
 refine region_drew 3 (by kernel_rfl) (by kernel_rfl) (by kernel_rfl) ?_
 simp only [List.take_succ_cons, List.take_zero, List.drop_succ_cons, List.drop_zero]
 try go_frame
 repeat (first
  | (refine qd_val rfl (fun m => rn_sliceAll rfl rfl size_u8 rfl (by omega)) ?_; go_frame)
  | (refine qd_val rfl (fun m => rn_arrTo5 (h := 16) rfl rfl size_u8 rfl rfl rfl (by omega) (by omega)) ?_; go_frame)
  | go_big_quiet_step (fail))
 refine wpQuiet_nil ?_
 rintro w' hw'
 have H' := H
 clear H
 have H := (show Own w w' _ by obtain ⟨m, rfl⟩ := hw'; exact H'.drewN m)
 clear H' hw'
 have z1 := tt
 go_wp2_with (first
  | (clear z1; refine st_both rfl (rn_copy (sv := .slice (some ⟨b6, 0, none⟩) 16 32) (xs := u8s (X.take 16)) (k := 16) H rfl rfl size_u8 rfl rfl (by have h := (Own.binAt (o := 0) (n := 16) (m := 32) (x := X.take 16) H (.head _) (fun j v hj => by rw [Nat.zero_add]; exact take_get5 hj) hl3.out.symm (by omega)).2.1; rw [BytesAt, hl3.out] at h; exact h) (by rw [length_ints, hl3.out]) (.tail (.head)) (by simp) (oneCell_ints _ _) rfl) ?_; clear H; intro w12 H; rw [hsp.out] at H; have z2 := tt)
  | (clear z2; refine st_val rfl (rn_loadAll (cs := u8s (id ++ sd)) H rfl rfl (.tail _ (.tail _ (.tail _ (.head _)))) rfl rfl hsz48.out) ?_; have z3 := tt)
  | (clear z3; go_at_call 65; refine (hs2.out _).mono ?_; rintro e w13 ⟨rfl, h3⟩; replace H := H.call0 h3; clear h3; have z4 := tt)
  | (clear z4; refine st_skip rfl (rn_storeRow (vs := u8s D) H rfl rfl rfl (size_hashL hl2.out) (by rw [hsp2.out]; exact .tail (.head)) (by simp [hl2.out, hl3.out]) (oneCell_ints _ _)) ?_; clear H; intro w14 H; have z5 := tt)
  | (clear z5; refine st_val rfl (rn_loadAll (cs := u8s (X.take 16 ++ D)) H rfl rfl (.tail _ (.head _)) rfl rfl (by rw [length_ints, hl48.out]; exact size_secret)) ?_; have z6 := tt)
  | (clear z6; refine st_skip rfl (rn_storeAll (vs := u8s (X.take 16 ++ D)) H rfl rfl rfl (by rw [length_ints, hl48.out]; exact size_secret) (.tail (.tail .head)) (by rw [length_ints, length_ints, hl48.out]; rfl) (oneCell_ints _ _)) ?_; clear H; intro w15 H; have z7 := tt))
 refine fin_cell (cs := u8s (X.take 16 ++ D)) rfl H rfl (.tail _ (.tail _ (.head _))) rfl rfl (by rw [length_ints, hl48.out]; exact size_secret) rfl ⟨rfl, H.end0 (by simp; omega)⟩
end Go.Proofs.YtfihlmnbonnekaaGreat
