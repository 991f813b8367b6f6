/- chirographlaw4.told. -/
import Derived.Test.YtfihlmnbonnekaaGreatLVer
namespace Go.Proofs.YtfihlmnbonnekaaGreat
open Go.RowKit

theorem old_nil (w : World) : Old w (.slice none 0 0) [] := ⟨Or.inl ⟨⟨none, rfl⟩, rfl, rfl⟩, fun k hk => by cases hk⟩
theorem isBytes_nil' : IsBytes [] := fun i hi => by simp at hi
theorem wid_nil : widthL [] = 0 := by decide

/-! what a tree signs holds by its public key -/
theorem numB_small : ∀ q : Nat, q < 32 → numB (q : Int) 4 = [0, 0, 0, (q : Int)] := by decide
theorem beN_app {xs : List Int} {a b c d : Int} : beN ([a, b, c, d] ++ xs) 4 = ((a * 256 + b) * 256 + c) * 256 + d := by simp [beN]
end Go.Proofs.YtfihlmnbonnekaaGreat
