/- ots: a chain's one hash, and its walk. -/
import Derived.Test.YtfihlmnbonnekaaChn
namespace Go.Proofs.Ytfihlmnbonnekaa
open Go.RowKit

theorem splice_one {pre ys x : List Int} {at1 : Int} (h1 : pre.length = 22) (h2 : ys.length = 33) (h3 : x.length = 32) : splice ((u8s (pre ++ ys)).set 22 (.int .u8 at1)) 23 (u8s x) = u8s (pre ++ at1 :: x) := by
  cases ys with
  | nil => simp at h2
  | cons y ys =>
    rw [show (22 : Nat) = 22 + 0 from rfl, set_right h1, List.set_cons_zero]
    have hl : (u8s (pre ++ at1 :: ys)).length = 55 := by rw [length_ints, List.length_append, h1, List.length_cons]; simp at h2; omega
    unfold splice
    rw [length_ints, h3, List.drop_of_length_le (by omega), List.append_nil]
    have e : u8s (pre ++ at1 :: ys) = u8s (pre ++ [at1]) ++ u8s ys := by rw [← ints_append, List.append_assoc]; rfl
    have e2 : u8s (pre ++ at1 :: x) = u8s (pre ++ [at1]) ++ u8s x := by rw [← ints_append, List.append_assoc]; rfl
    rw [e, e2, List.take_left' (by rw [length_ints, List.length_append, h1]; rfl)]

set_option maxRecDepth 100000 in
set_option maxHeartbeats 4000000 in
theorem one_any (w : World) (b n : Nat) (pre ys x : List Int) (hn : n < 256) (hpre : pre.length = 22) (hys : ys.length = 33) (hx : x.length = 32) (H0 : Own w w [(b, u8s (pre ++ ys), 159)]) :
    Calls Try.prog 93 #[.pointer (some ⟨b, 0, none⟩), .int .i64 n, .agg (u8s x).toArray] w fun e w' => e = .returned (.agg (u8s (sha (pre ++ (n : Int) :: x))).toArray) ∧ Own w w' [(b, u8s (pre ++ (n : Int) :: x), 159)] := by
  have H := H0
  have hsp := Lib.hid (splice_one (at1 := (n : Int)) hpre hys hx)
  have hl := Lib.hid (show (u8s (pre ++ ys)).length = 55 by rw [length_ints, List.length_append, hpre, hys])
  have hl2 := Lib.hid (show (u8s (pre ++ (n : Int) :: x)).length = 55 by rw [length_ints, List.length_append, hpre, List.length_cons, hx])
  have hx' := Lib.hid hx
  have hbs := Lib.hid (show 55 = (pre ++ (n : Int) :: x).length by rw [List.length_append, hpre, List.length_cons, hx])
  obtain ⟨c0, hc0⟩ : ∃ c, c = u8s (pre ++ ys) := ⟨_, rfl⟩
  rw [← hc0] at H hsp hl
  obtain ⟨zs, hzs⟩ : ∃ z, z = pre ++ (n : Int) :: x := ⟨_, rfl⟩
  rw [← hzs] at hsp hl2 hbs ⊢
  clear hx hpre hys hc0 hzs H0
  go_enter Try.func93, Try.ntmps93
  have tok1 : True := trivial
  go_wp2_with (first
    | (clear tok1; refine st_new rfl (rn_box (cs := u8s x) H rfl rfl rfl) ?_; clear H; intro b5 w1 hb5 H; have tok2 : True := trivial)
    | (clear tok2; refine st_new rfl (rn_alloc H rfl (by kernel_rfl : ((Try.prog.info? 28).bind (·.zero)).map (fun z => z.cells.toList) = some (u8s (List.replicate 32 0)))) ?_; clear H; intro b6 w2 hb6 H)
    | (refine st_skip rfl (rn_store (v := .int .u8 n) H rfl rfl rfl (by kernel_rfl) (.tail (.tail .head)) (by rw [hl.out]; omega) rfl) ?_; clear H; intro w3 H))
  refine region_drew 5 (by kernel_rfl) (by kernel_rfl) (by kernel_rfl) ?_
  simp only [List.take_succ_cons, List.take_zero, List.drop_succ_cons, List.drop_zero]
  try go_frame
  repeat (first
    | (refine qd_val (v := .slice (some ⟨b, 23, none⟩) 32 32) rfl (fun m => rn_sliceArr (l := 23) (h := 55) rfl rfl size_u8 rfl (by exact .is rfl rfl rfl) (by exact .no _) (by omega) (by omega)) ?_; go_frame)
    | (refine qd_val rfl (fun m => rn_sliceAll rfl rfl size_u8 rfl (by omega)) ?_; go_frame)
    | go_big_quiet_step (fail))
  refine wpQuiet_nil ?_
  rintro w' hw'
  have H' := H
  clear H
  have H := (show Own w w' _ by obtain ⟨m, rfl⟩ := hw'; exact H'.drewN m)
  clear H' hw'
  have hx3 : Hid ((u8s x).take 32 = u8s x) := List.take_of_length_le (by rw [length_ints, hx'.out]; omega)
  go_wp2_with (first
    | (refine st_both rfl (rn_copy (sv := .slice (some ⟨b5, 0, none⟩) 32 32) (xs := u8s x) (k := 32) H rfl rfl size_u8 rfl rfl (by have h := Own.litM (T := 28) H (.tail _ (.head _)) hx'.out.symm; rw [BytesAt, hx'.out] at h; exact h) (by rw [length_ints, hx'.out]) (.tail (.tail .head)) (by simp only [List.length_set]; rw [hl.out]; decide) (oneCell_ints _ _) rfl) ?_; clear H; intro w4 H; rw [hx3.out, hsp.out] at H)
    | (refine st_val rfl (rn_sliceAll rfl rfl size_u8 rfl (by omega)) ?_)
    | (go_at_call 88; refine (shaSum_any _ _ zs (Own.litM (T := 159) H (.tail _ (.tail _ (.head _))) hbs.out) (by intro k hk; obtain rfl := (blk_some hk).1; exact H.lt (.tail _ (.tail _ (.head _)))) (by rw [← hbs.out]; omega)).mono ?_; rintro e w5 ⟨rfl, h3⟩; have H2 := H.call0 h3; clear H h3; have H := H2; clear H2)
    | (refine st_skip rfl (rn_storeAll (vs := u8s (sha zs)) H rfl rfl rfl (by kernel_rfl) .head (by kernel_rfl) (oneCell_ints _ _)) ?_; clear H; intro w6 H))
  refine fin_cell rfl H rfl (.head _) rfl rfl (by kernel_rfl) rfl ⟨rfl, ?_⟩
  exact Own.drop (L1 := [_, _]) H (by simp; exact ⟨hb6, hb5⟩)

/-- hashes along a chain, from a place on -/
def stepsC (pre : List Int) (f : Nat) (x : List Int) : Nat → List Int
  | 0 => x
  | n + 1 => sha (pre ++ ((f + n : Nat) : Int) :: stepsC pre f x n)
theorem length_stepsC {pre : List Int} {f : Nat} {x : List Int} (h : x.length = 32) : ∀ n, (stepsC pre f x n).length = 32
  | 0 => h
  | _ + 1 => rfl
theorem stepsC_add {pre : List Int} {f : Nat} {x : List Int} {m : Nat} : ∀ n, stepsC pre (f + m) (stepsC pre f x m) n = stepsC pre f x (m + n)
  | 0 => rfl
  | n + 1 => by
    show sha (pre ++ ((f + m + n : Nat) : Int) :: stepsC pre (f + m) (stepsC pre f x m) n) = sha (pre ++ ((f + (m + n) : Nat) : Int) :: stepsC pre f x (m + n))
    rw [stepsC_add n, Nat.add_assoc]
theorem isBytes_stepsC {pre : List Int} {f : Nat} {x : List Int} (h : IsBytes x) : ∀ n, IsBytes (stepsC pre f x n)
  | 0 => h
  | _ + 1 => isBytes_sha _
theorem length_cons33 {x : List Int} {a : Int} (h : x.length = 32) : (a :: x).length = 33 := by rw [List.length_cons, h]
theorem size_hashL {xs : List Int} (h : xs.length = 32) : (Try.prog.info? 28).map (·.size) = some (u8s xs).length := by rw [length_ints, h]; exact size_hash

set_option maxRecDepth 100000 in
set_option maxHeartbeats 4000000 in
theorem walk_any (w : World) (b f t : Nat) (pre ys x : List Int) (hft : f ≤ t) (ht : t ≤ 256) (hpre : pre.length = 22) (hys : ys.length = 33) (hx : x.length = 32) (H0 : Own w w [(b, u8s (pre ++ ys), 159)]) :
    Calls Try.prog 87 #[.pointer (some ⟨b, 0, none⟩), .agg (u8s x).toArray, .int .i64 f, .int .i64 t] w fun e w' => e = .returned (.agg (u8s (stepsC pre f x (t - f))).toArray) ∧ ∃ ys', ys'.length = 33 ∧ Own w w' [(b, u8s (pre ++ ys'), 159)] := by
  have H := H0
  have hpre' := Lib.hid hpre
  have hys' := Lib.hid hys
  have hx' := Lib.hid hx
  clear hx hpre hys H0
  go_enter Try.func87, Try.ntmps87
  have tok1 : True := trivial
  go_wp2_with (first
    | (clear tok1; refine st_new rfl (rn_box (cs := u8s x) H rfl rfl rfl) ?_; clear H; intro b5 w1 hb5 H; have tok2 : True := trivial)
    | (clear tok2; refine st_new rfl (rn_alloc H rfl info_hash) ?_; clear H; intro b8 w2 hb8 H))
  go_loopw [9] (fun v9 wr => ∃ (i : Nat) (zs : List Int), f + i ≤ t ∧ v9 = .int .i64 ((f + i : Nat) : Int) ∧ zs.length = 33 ∧ Own w wr [(b8, u8s (List.replicate 32 0), 28), (b5, u8s (stepsC pre f x i), 28), (b, u8s (pre ++ zs), 159)]) (fun v9 _ => ((t : Nat) - intOf v9).toNat)
  case atStart => exact ⟨0, ys, by omega, rfl, hys'.out, H⟩
  case round =>
    clear H
    obtain ⟨i, zs, hi, rfl, hzs, H⟩ := hrel
    have hzs' := Lib.hid hzs
    have hlx := Lib.hid (length_stepsC (pre := pre) (f := f) hx'.out i)
    have hst : Hid (stepsC pre f x (i + 1) = sha (pre ++ ((f + i : Nat) : Int) :: stepsC pre f x i)) := rfl
    have hl33 := Lib.hid (length_cons33 (a := ((f + i : Nat) : Int)) hlx.out)
    have hfin : Hid (f + i = t → t - f = i) := fun h => by omega
    obtain ⟨k, hk⟩ : ∃ k, k = f + i := ⟨_, rfl⟩
    rw [← hk] at hst hl33 hi hfin ⊢
    obtain ⟨xi, hxi⟩ : ∃ y, y = stepsC pre f x i := ⟨_, rfl⟩
    rw [← hxi] at H hlx hst hl33
    have hxi' := Lib.hid hxi
    have hk' := Lib.hid hk
    clear hxi hk hzs
    by_cases hin : k < t
    · go_wp2_with (first
        | (refine st_val rfl (rn_loadAll (cs := u8s xi) H rfl rfl (.tail _ (.head _)) rfl rfl (size_hashL hlx.out)) ?_)
        | (go_at_call 93; refine (one_any _ b k pre zs xi (by omega) hpre'.out hzs'.out hlx.out (H.sub1 (.tail _ (.tail _ (.head _))))).mono ?_; rintro e w5 ⟨rfl, h3⟩; have H2 := Own.callAt (L1 := [_, _]) H h3; clear H h3; have H := H2; clear H2)
        | (refine st_skip rfl (rn_storeAll (vs := u8s (sha (pre ++ (k : Int) :: xi))) H rfl rfl rfl (by kernel_rfl) (.tail .head) (by rw [length_ints, length_ints, hlx.out]; rfl) (oneCell_ints _ _)) ?_; clear H; intro w6 H; rw [← hst.out] at H))
      exact ⟨⟨i + 1, _, by have := hk'.out; omega, by rw [← Nat.add_assoc, ← hk'.out]; go_num, hl33.out, H⟩, by simp [intOf]; omega⟩
    · obtain rfl : k = t := by omega
      go_wp2_with (first
        | (refine st_val rfl (rn_loadAll (cs := u8s xi) H rfl rfl (.tail _ (.head _)) rfl rfl (size_hashL hlx.out)) ?_)
        | (refine st_skip rfl (rn_storeAll (vs := u8s xi) H rfl rfl rfl (size_hashL hlx.out) .head (by rw [length_ints, length_ints, hlx.out]; rfl) (oneCell_ints _ _)) ?_; clear H; intro w6 H))
      refine fin_cell rfl H rfl (.head _) rfl rfl (size_hashL hlx.out) rfl ⟨?_, zs, hzs'.out, ?_⟩
      · rw [hxi'.out, hfin.out (by trivial)]
      · exact Own.drop (L1 := [_, _]) H (by simp; exact ⟨hb8, hb5⟩)

end Go.Proofs.Ytfihlmnbonnekaa
