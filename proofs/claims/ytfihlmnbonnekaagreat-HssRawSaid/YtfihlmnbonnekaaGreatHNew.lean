/- hss: Child, Many, New; the document's Child. -/
import Derived.Test.YtfihlmnbonnekaaGreatHChd
namespace Go.Proofs.YtfihlmnbonnekaaGreat
open Go.RowKit

theorem many_1 (w : World) : Calls Tryz.prog 25 #[.int .i64 1] w fun e w' => e = .returned (.int .i64 32) ∧ Own w w' [] := by
  go_enter Tryz.func25, Tryz.ntmps25
  go_wp2
  go_ret
  exact ⟨rfl, Own.refl w⟩
theorem many_2 (w : World) : Calls Tryz.prog 25 #[.int .i64 2] w fun e w' => e = .returned (.int .i64 1024) ∧ Own w w' [] := by
  go_enter Tryz.func25, Tryz.ntmps25
  go_wp2
  go_ret
  exact ⟨rfl, Own.refl w⟩
theorem many_0 (w : World) (x : Int) (h1 : x ≠ 1) (h2 : x ≠ 2) : Calls Tryz.prog 25 #[.int .i64 x] w fun e w' => e = .returned (.int .i64 0) ∧ Own w w' [] := by
  have e1 : (x == 1) = false := by simpa using h1
  have e2 : (x == 2) = false := by simpa using h2
  go_enter Tryz.func25, Tryz.ntmps25
  go_wp2
  go_ret
  exact ⟨rfl, Own.refl w⟩

end Go.Proofs.YtfihlmnbonnekaaGreat
