/- sync.Once and atomic.Int64, by one goroutine: done once, then never again. No condition but what stands in each. -/
import Derived.Test.YtfihlmnbonnekaaGreatPrgA
import Derived.Tactics
import Derived.Tactics2
import Derived.Defers
import Derived.Laws.Pointers
import Derived.Laws.LoneSync
import Derived.RegionTactic
import Derived.RegionCalls
namespace Go.Proofs.YtfihlmnbonnekaaGreat
open Go.RowKit

theorem Own.fz {w0 w : World} {L : List Ent} (H : Own w0 w L) {b : Nat} {cs : List Value} {T : TypeId} (hm : (b, cs, T) ∈ L) (i : Nat) : w.frozen? ⟨b, i, none⟩ = false := by
  unfold World.frozen?
  rw [H.here _ _ _ hm]
  simp

section
variable {P : Program} {rest : List Oper} {o : Oper} {a : Act} {w : World}
end

end Go.Proofs.YtfihlmnbonnekaaGreat
