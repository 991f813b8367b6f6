/- The small functions of sha. -/
import Derived.Test.YtjcnhpnadfhjaaaRows
import Derived.Test.YtjcnhpnadfhjaaaMem
import Derived.Test.YtjcnhpnadfhjaaaSha
namespace Go.Proofs.Ytjcnhpnadfhjaaa
open Go.RowKit

theorem rot_amount : ∀ n : Nat, n < 32 → 1 ≤ n → bits BinOp.and IntKind.u64 (IntKind.u64.wrap (-(n : Int))) 31 = ((32 - n : Nat) : Int) := by decide +kernel

set_option maxRecDepth 100000 in
set_option maxHeartbeats 400000 in
theorem rot_any (x k : Int) (n : Nat) (hk : k = -(n : Int)) (h1 : 1 ≤ n) (h2 : n < 32) (w : World) :
    Calls Try.prog 36 #[.int .u32 x, .int .i64 k] w fun e w' => e = .returned (.int .u32 (rotr x n)) ∧ w = w' := by
  subst hk
  have e := rot_amount n h2 h1
  go_enter Try.func36, Try.ntmps36
  go_wp2
  go_ret
  exact ⟨by rw [show 32 - (32 - n) = n by omega]; rfl, rfl⟩

theorem rot7 (x : Int) (w : World) : Calls Try.prog 36 #[.int .u32 x, .int .i64 (-7)] w fun e w' => e = .returned (.int .u32 (rotr x 7)) ∧ w = w' := rot_any x (-7) 7 rfl (by decide) (by decide) w
theorem rot18 (x : Int) (w : World) : Calls Try.prog 36 #[.int .u32 x, .int .i64 (-18)] w fun e w' => e = .returned (.int .u32 (rotr x 18)) ∧ w = w' := rot_any x (-18) 18 rfl (by decide) (by decide) w
theorem rot17 (x : Int) (w : World) : Calls Try.prog 36 #[.int .u32 x, .int .i64 (-17)] w fun e w' => e = .returned (.int .u32 (rotr x 17)) ∧ w = w' := rot_any x (-17) 17 rfl (by decide) (by decide) w
theorem rot19 (x : Int) (w : World) : Calls Try.prog 36 #[.int .u32 x, .int .i64 (-19)] w fun e w' => e = .returned (.int .u32 (rotr x 19)) ∧ w = w' := rot_any x (-19) 19 rfl (by decide) (by decide) w
theorem rot6 (x : Int) (w : World) : Calls Try.prog 36 #[.int .u32 x, .int .i64 (-6)] w fun e w' => e = .returned (.int .u32 (rotr x 6)) ∧ w = w' := rot_any x (-6) 6 rfl (by decide) (by decide) w
theorem rot11 (x : Int) (w : World) : Calls Try.prog 36 #[.int .u32 x, .int .i64 (-11)] w fun e w' => e = .returned (.int .u32 (rotr x 11)) ∧ w = w' := rot_any x (-11) 11 rfl (by decide) (by decide) w
theorem rot25 (x : Int) (w : World) : Calls Try.prog 36 #[.int .u32 x, .int .i64 (-25)] w fun e w' => e = .returned (.int .u32 (rotr x 25)) ∧ w = w' := rot_any x (-25) 25 rfl (by decide) (by decide) w
theorem rot2 (x : Int) (w : World) : Calls Try.prog 36 #[.int .u32 x, .int .i64 (-2)] w fun e w' => e = .returned (.int .u32 (rotr x 2)) ∧ w = w' := rot_any x (-2) 2 rfl (by decide) (by decide) w
theorem rot13 (x : Int) (w : World) : Calls Try.prog 36 #[.int .u32 x, .int .i64 (-13)] w fun e w' => e = .returned (.int .u32 (rotr x 13)) ∧ w = w' := rot_any x (-13) 13 rfl (by decide) (by decide) w
theorem rot22 (x : Int) (w : World) : Calls Try.prog 36 #[.int .u32 x, .int .i64 (-22)] w fun e w' => e = .returned (.int .u32 (rotr x 22)) ∧ w = w' := rot_any x (-22) 22 rfl (by decide) (by decide) w

/-! types -/
theorem info_hash : ((Try.prog.info? 35).bind (·.zero)).map (fun z => z.cells.toList) = some (u8s (List.replicate 32 0)) := by kernel_rfl
theorem info_a8 : ((Try.prog.info? 56).bind (·.zero)).map (fun z => z.cells.toList) = some (u32s (List.replicate 8 0)) := by kernel_rfl
theorem info_a64 : ((Try.prog.info? 62).bind (·.zero)).map (fun z => z.cells.toList) = some (u32s (List.replicate 64 0)) := by kernel_rfl
theorem size_hash : (Try.prog.info? 35).map (·.size) = some 32 := by kernel_rfl
theorem size_a8 : (Try.prog.info? 56).map (·.size) = some 8 := by kernel_rfl
theorem size_a64 : (Try.prog.info? 62).map (·.size) = some 64 := by kernel_rfl
theorem size_u32 : (Try.prog.info? 55).map (·.size) = some 1 := by kernel_rfl
theorem size_u8 : (Try.prog.info? 5).map (·.size) = some 1 := by kernel_rfl

set_option maxRecDepth 100000 in
set_option maxHeartbeats 400000 in
theorem rounds_any (w : World) :
    Calls Try.prog 35 #[] w fun e w' => e = .returned (.agg (u32s shaK).toArray) ∧ Own w w' [] := by
  have H := Own.refl w
  go_enter Try.func35, Try.ntmps35
  go_wp2_with (first
    | (refine st_new rfl (rn_alloc H rfl info_a64) ?_; clear H; intro b0 w1 hb0 H)
    | (refine st_val rfl (rn_build (cs := u32s shaK) rfl (by kernel_rfl)) ?_)
    | (refine st_skip rfl (rn_storeAll H rfl rfl rfl size_a64 .head (by kernel_rfl) (oneCell_ints _ _)) ?_; clear H; intro w2 H))
  exact fin_cell rfl H rfl (.head _) rfl rfl size_a64 rfl ⟨rfl, H.end0 (by simp; omega)⟩

end Go.Proofs.Ytjcnhpnadfhjaaa
