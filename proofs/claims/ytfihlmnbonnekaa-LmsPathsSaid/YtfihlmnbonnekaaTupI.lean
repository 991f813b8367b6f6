/- moves, extracts, digits with a code. -/
import Derived.Test.YtfihlmnbonnekaaRefO
namespace Go.Proofs.Ytfihlmnbonnekaa
open Go.RowKit

section
variable {P : Program} {o : Oper} {a : Act} {w : World}
theorem rn_move {x : Operand} {v : Value} (ho : o.op = .move x) (hx : a.eval x = v) : (execOp a.eval o).run P w = .ok (.value v) w := by unfold execOp; simp [ho, hx]
theorem rn_assign {x : Operand} {v : Value} (ho : o.op = .assign x) (hx : a.eval x = v) : (execOp a.eval o).run P w = .ok (.value v) w := by unfold execOp; simp [ho, hx]
theorem rn_extract {x : Operand} {i : Nat} {cs : Array Value} {v : Value} (ho : o.op = .extract x i) (hx : a.eval x = .tuple cs) (hv : cs[i]? = some v) : (execOp a.eval o).run P w = .ok (.value v) w := by unfold execOp; simp [ho, hx, hv, Instr.extract]
end

/-- digits and a code that says all went right -/
def TupI (xs : List Int) : World → Value → Prop := fun w v => ∃ p c, v = .tuple #[.slice p xs.length c, .int .i64 0] ∧ IIn .i64 xs w (.slice p xs.length c)
theorem TupI.mono (xs : List Int) : Mono (TupI xs) := fun _ _ _ h ⟨p, c, h1, h2⟩ => ⟨p, c, h1, (IIn.mono _ _) _ _ _ h h2⟩

theorem digitsT_any (w : World) (k : Nat) (hk : k = 1 ∨ k = 2 ∨ k = 4 ∨ k = 8) (hs : List Int) (h32 : hs.length = 32) (hb : IsBytes hs) :
    Calls Try.prog 82 #[.int .i64 k, .agg (u8s hs).toArray] w fun e w' => ∃ r, e = .returned r ∧ TupI (digits hs k) w' r ∧ Own w w' [] :=
  (digits_any w k hk hs h32 hb).mono fun e w' ⟨v, h1, h2, h3⟩ => by
    have h4 := h2.1
    obtain ⟨p, c, rfl⟩ := h4
    exact ⟨_, h1, ⟨p, c, rfl, h2⟩, h3⟩

end Go.Proofs.Ytfihlmnbonnekaa
