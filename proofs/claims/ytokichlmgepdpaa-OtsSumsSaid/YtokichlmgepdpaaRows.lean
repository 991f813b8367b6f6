/-
  No cell of these rows narrows 'for every input' (looked for: loops, veiled, ifaces, maps, wideKeys, modest, calm, conditions, laid).
  DERIVED. THE GIVEN ROWS OF THIS SEAT. 8 by the template 'for every input the law returns true; each argument reads behind the call as it read before'; 0 by the template 'total and deterministic' (their statements: YtokichlmgepdpaaTotals.lean).
  GIVEN WITH THE SEED: the statements are not yours to turn. If you find one false, say at which input.
  Laid BY PROGRAM, IN A SANDBOX (cutbox-rows.mjs): the forced cells as the released guide's own fill.sh prints them over the translation 05bf4207a60c5279… (all of the seat's roots in one cut). By AI agents, Wed Nov 11 2026. No macro, syntax, notation, axiom, sorry.
-/
import Derived.Test.YtokichlmgepdpaaChecked
import GoSem.Claim
import GoSem.ClaimJoined
import GoSem.ClaimMapViews
import Derived.JoinedTies
import Derived.KernelRfl
namespace Go.Proofs.Ytokichlmgepdpaa
/- THE CELL 'sum', in the pinned program and in every row, IS THE sha256 OF THE DUMP (.gsa) THAT YtokichlmgepdpaaProg.lean LOADS. Nothing in Lean hashes anything: it is a label: what it is worth is what the hold of that sum in a sandbox is worth. -/
noncomputable def Try.pinned : Pinned := { name := "ytokichlmgepdpaa", sum := "05bf4207a60c52797fa44389da8d1a4a1276dfa98a1921879596fe478978e9d8", checked := Try.checked }
namespace Rows
def none {H : Type} : Left H := { results := [], args := [] }

/-- 'chirographlaw3.OtsDigits': WHATEVER THE INPUT: true; the input reads as it did. -/
def otsDigitsSpec : ChangeSpec := { name := "otsDigits", fn := fun _ => fun
  | [d1, d2] => { results := [.lit (.bool true)], args := [d1, d2] }
  | _ => none }
def otsDigitsRow : OpenClaim := { program := "ytokichlmgepdpaa", sum := "05bf4207a60c52797fa44389da8d1a4a1276dfa98a1921879596fe478978e9d8", func := "chirograph/chirographlaw3.OtsDigits", spec := "otsDigits", unfollowed := true, recurses := true, apart := false }
def OtsDigitsSaid : Prop := otsDigitsRow.holds Try.pinned (OpenSpec.ofChange otsDigitsSpec)

/-- ITS FALSE NEIGHBOUR: 'it returns false'. Refute it at one input. -/
def otsDigitsWrong : ChangeSpec := { name := "otsDigits", fn := fun _ => fun
  | [d1, d2] => { results := [.lit (.bool false)], args := [d1, d2] }
  | _ => none }
def OtsDigitsWrongFalsely : Prop := otsDigitsRow.holds Try.pinned (OpenSpec.ofChange otsDigitsWrong)

/-- 'chirographlaw3.OtsSums': WHATEVER THE INPUT: true; the input reads as it did. -/
def otsSumsSpec : ChangeSpec := { name := "otsSums", fn := fun _ => fun
  | [d1, d2] => { results := [.lit (.bool true)], args := [d1, d2] }
  | _ => none }
def otsSumsRow : OpenClaim := { program := "ytokichlmgepdpaa", sum := "05bf4207a60c52797fa44389da8d1a4a1276dfa98a1921879596fe478978e9d8", func := "chirograph/chirographlaw3.OtsSums", spec := "otsSums", unfollowed := true, recurses := true, apart := false }
def OtsSumsSaid : Prop := otsSumsRow.holds Try.pinned (OpenSpec.ofChange otsSumsSpec)

/-- ITS FALSE NEIGHBOUR: 'it returns false'. Refute it at one input. -/
def otsSumsWrong : ChangeSpec := { name := "otsSums", fn := fun _ => fun
  | [d1, d2] => { results := [.lit (.bool false)], args := [d1, d2] }
  | _ => none }
def OtsSumsWrongFalsely : Prop := otsSumsRow.holds Try.pinned (OpenSpec.ofChange otsSumsWrong)

/-- 'chirographlaw3.OtsSame': WHATEVER THE INPUT: true; the input reads as it did. -/
def otsSameSpec : ChangeSpec := { name := "otsSame", fn := fun _ => fun
  | [d1, d2, d3, d4] => { results := [.lit (.bool true)], args := [d1, d2, d3, d4] }
  | _ => none }
def otsSameRow : OpenClaim := { program := "ytokichlmgepdpaa", sum := "05bf4207a60c52797fa44389da8d1a4a1276dfa98a1921879596fe478978e9d8", func := "chirograph/chirographlaw3.OtsSame", spec := "otsSame", unfollowed := true, recurses := true, apart := false }
def OtsSameSaid : Prop := otsSameRow.holds Try.pinned (OpenSpec.ofChange otsSameSpec)

/-- ITS FALSE NEIGHBOUR: 'it returns false'. Refute it at one input. -/
def otsSameWrong : ChangeSpec := { name := "otsSame", fn := fun _ => fun
  | [d1, d2, d3, d4] => { results := [.lit (.bool false)], args := [d1, d2, d3, d4] }
  | _ => none }
def OtsSameWrongFalsely : Prop := otsSameRow.holds Try.pinned (OpenSpec.ofChange otsSameWrong)

/-- 'chirographlaw3.OtsAsks': WHATEVER THE INPUT: true; the input reads as it did. -/
def otsAsksSpec : ChangeSpec := { name := "otsAsks", fn := fun _ => fun
  | [d1, d2, d3, d4, d5] => { results := [.lit (.bool true)], args := [d1, d2, d3, d4, d5] }
  | _ => none }
def otsAsksRow : OpenClaim := { program := "ytokichlmgepdpaa", sum := "05bf4207a60c52797fa44389da8d1a4a1276dfa98a1921879596fe478978e9d8", func := "chirograph/chirographlaw3.OtsAsks", spec := "otsAsks", unfollowed := true, recurses := true, apart := false }
def OtsAsksSaid : Prop := otsAsksRow.holds Try.pinned (OpenSpec.ofChange otsAsksSpec)

/-- ITS FALSE NEIGHBOUR: 'it returns false'. Refute it at one input. -/
def otsAsksWrong : ChangeSpec := { name := "otsAsks", fn := fun _ => fun
  | [d1, d2, d3, d4, d5] => { results := [.lit (.bool false)], args := [d1, d2, d3, d4, d5] }
  | _ => none }
def OtsAsksWrongFalsely : Prop := otsAsksRow.holds Try.pinned (OpenSpec.ofChange otsAsksWrong)

/-- 'chirographlaw3.OtsArgs': WHATEVER THE INPUT: true; the input reads as it did. -/
def otsArgsSpec : ChangeSpec := { name := "otsArgs", fn := fun _ => fun
  | [d1, d2, d3, d4] => { results := [.lit (.bool true)], args := [d1, d2, d3, d4] }
  | _ => none }
def otsArgsRow : OpenClaim := { program := "ytokichlmgepdpaa", sum := "05bf4207a60c52797fa44389da8d1a4a1276dfa98a1921879596fe478978e9d8", func := "chirograph/chirographlaw3.OtsArgs", spec := "otsArgs", unfollowed := true, recurses := true, apart := false }
def OtsArgsSaid : Prop := otsArgsRow.holds Try.pinned (OpenSpec.ofChange otsArgsSpec)

/-- ITS FALSE NEIGHBOUR: 'it returns false'. Refute it at one input. -/
def otsArgsWrong : ChangeSpec := { name := "otsArgs", fn := fun _ => fun
  | [d1, d2, d3, d4] => { results := [.lit (.bool false)], args := [d1, d2, d3, d4] }
  | _ => none }
def OtsArgsWrongFalsely : Prop := otsArgsRow.holds Try.pinned (OpenSpec.ofChange otsArgsWrong)

/-- 'chirographlaw3.OtsHolds': WHATEVER THE INPUT: true; the input reads as it did. -/
def otsHoldsSpec : ChangeSpec := { name := "otsHolds", fn := fun _ => fun
  | [d1, d2, d3, d4, d5, d6, d7] => { results := [.lit (.bool true)], args := [d1, d2, d3, d4, d5, d6, d7] }
  | _ => none }
def otsHoldsRow : OpenClaim := { program := "ytokichlmgepdpaa", sum := "05bf4207a60c52797fa44389da8d1a4a1276dfa98a1921879596fe478978e9d8", func := "chirograph/chirographlaw3.OtsHolds", spec := "otsHolds", unfollowed := true, recurses := true, apart := false }
def OtsHoldsSaid : Prop := otsHoldsRow.holds Try.pinned (OpenSpec.ofChange otsHoldsSpec)

/-- ITS FALSE NEIGHBOUR: 'it returns false'. Refute it at one input. -/
def otsHoldsWrong : ChangeSpec := { name := "otsHolds", fn := fun _ => fun
  | [d1, d2, d3, d4, d5, d6, d7] => { results := [.lit (.bool false)], args := [d1, d2, d3, d4, d5, d6, d7] }
  | _ => none }
def OtsHoldsWrongFalsely : Prop := otsHoldsRow.holds Try.pinned (OpenSpec.ofChange otsHoldsWrong)

/-- 'chirographlaw3.OtsForms': WHATEVER THE INPUT: true; the input reads as it did. -/
def otsFormsSpec : ChangeSpec := { name := "otsForms", fn := fun _ => fun
  | [d1, d2, d3, d4, d5] => { results := [.lit (.bool true)], args := [d1, d2, d3, d4, d5] }
  | _ => none }
def otsFormsRow : OpenClaim := { program := "ytokichlmgepdpaa", sum := "05bf4207a60c52797fa44389da8d1a4a1276dfa98a1921879596fe478978e9d8", func := "chirograph/chirographlaw3.OtsForms", spec := "otsForms", unfollowed := true, recurses := true, apart := false }
def OtsFormsSaid : Prop := otsFormsRow.holds Try.pinned (OpenSpec.ofChange otsFormsSpec)

/-- ITS FALSE NEIGHBOUR: 'it returns false'. Refute it at one input. -/
def otsFormsWrong : ChangeSpec := { name := "otsForms", fn := fun _ => fun
  | [d1, d2, d3, d4, d5] => { results := [.lit (.bool false)], args := [d1, d2, d3, d4, d5] }
  | _ => none }
def OtsFormsWrongFalsely : Prop := otsFormsRow.holds Try.pinned (OpenSpec.ofChange otsFormsWrong)

/-- 'chirographlaw3.OtsWide': WHATEVER THE INPUT: true; the input reads as it did. -/
def otsWideSpec : ChangeSpec := { name := "otsWide", fn := fun _ => fun
  | [d1, d2, d3] => { results := [.lit (.bool true)], args := [d1, d2, d3] }
  | _ => none }
def otsWideRow : OpenClaim := { program := "ytokichlmgepdpaa", sum := "05bf4207a60c52797fa44389da8d1a4a1276dfa98a1921879596fe478978e9d8", func := "chirograph/chirographlaw3.OtsWide", spec := "otsWide", unfollowed := true, recurses := true, apart := false }
def OtsWideSaid : Prop := otsWideRow.holds Try.pinned (OpenSpec.ofChange otsWideSpec)

/-- ITS FALSE NEIGHBOUR: 'it returns false'. Refute it at one input. -/
def otsWideWrong : ChangeSpec := { name := "otsWide", fn := fun _ => fun
  | [d1, d2, d3] => { results := [.lit (.bool false)], args := [d1, d2, d3] }
  | _ => none }
def OtsWideWrongFalsely : Prop := otsWideRow.holds Try.pinned (OpenSpec.ofChange otsWideWrong)

/- THE SECOND FORM. 'bulk': how many values and letters a reading holds, each counted each time it is reached (what is shared counts as often as it is met; a slice's spare places count too). A statement '..UptoSaid' is the law's where the arguments, and the package variables that the reading takes, are together of bulk at most 1048576: NARROWER than '..Said'. Prove '..Said' where nothing that the law and all that it calls make is longer than what came in: it says more and counts as full. Else prove '..UptoSaid'. A law counts once. -/
mutual
def uptoBulk {H : Type} : DataW H → Nat
  | .lit (.string bytes) => bytes.length + 1
  | .lit _ => 1
  | .nil => 1
  | .ptr d => uptoBulk d + 1
  | .slice elems spare => uptoBulkAll elems + uptoBulkAll spare + 1
  | .agg parts => uptoBulkAll parts + 1
  | .iface _ d => uptoBulk d + 1
  | .map entries => uptoBulkEntries entries + 1
  | .held _ => 1
def uptoBulkAll {H : Type} : List (DataW H) → Nat
  | [] => 0
  | d :: r => uptoBulk d + uptoBulkAll r
def uptoBulkEntries {H : Type} : List (Lit × DataW H) → Nat
  | [] => 0
  | x :: r => uptoBulkEntry x + uptoBulkEntries r
def uptoBulkEntry {H : Type} : Lit × DataW H → Nat
  | (.string bytes, d) => bytes.length + uptoBulk d + 1
  | (_, d) => uptoBulk d + 1
 end
def uptoSmall : (H : Type) → List (DataW H) → Bool := fun _ ds => decide (uptoBulkAll ds ≤ 1048576)
def OpenSpec.upto (s : _root_.Go.ChangeSpec) : _root_.Go.OpenSpec := { _root_.Go.OpenSpec.ofChange s with cond := some uptoSmall }

/-- 'chirographlaw3.OtsDigits', WHERE WHAT IT READS IS OF BULK AT MOST 1048576: true; the input reads as it did. -/
def otsDigitsUptoRow : OpenClaim := { program := "ytokichlmgepdpaa", sum := "05bf4207a60c52797fa44389da8d1a4a1276dfa98a1921879596fe478978e9d8", func := "chirograph/chirographlaw3.OtsDigits", spec := "otsDigits", unfollowed := true, recurses := true, apart := false, narrowed := true }
def OtsDigitsUptoSaid : Prop := otsDigitsUptoRow.holds Try.pinned (OpenSpec.upto otsDigitsSpec)

/-- 'chirographlaw3.OtsSums', WHERE WHAT IT READS IS OF BULK AT MOST 1048576: true; the input reads as it did. -/
def otsSumsUptoRow : OpenClaim := { program := "ytokichlmgepdpaa", sum := "05bf4207a60c52797fa44389da8d1a4a1276dfa98a1921879596fe478978e9d8", func := "chirograph/chirographlaw3.OtsSums", spec := "otsSums", unfollowed := true, recurses := true, apart := false, narrowed := true }
def OtsSumsUptoSaid : Prop := otsSumsUptoRow.holds Try.pinned (OpenSpec.upto otsSumsSpec)

/-- 'chirographlaw3.OtsSame', WHERE WHAT IT READS IS OF BULK AT MOST 1048576: true; the input reads as it did. -/
def otsSameUptoRow : OpenClaim := { program := "ytokichlmgepdpaa", sum := "05bf4207a60c52797fa44389da8d1a4a1276dfa98a1921879596fe478978e9d8", func := "chirograph/chirographlaw3.OtsSame", spec := "otsSame", unfollowed := true, recurses := true, apart := false, narrowed := true }
def OtsSameUptoSaid : Prop := otsSameUptoRow.holds Try.pinned (OpenSpec.upto otsSameSpec)

/-- 'chirographlaw3.OtsAsks', WHERE WHAT IT READS IS OF BULK AT MOST 1048576: true; the input reads as it did. -/
def otsAsksUptoRow : OpenClaim := { program := "ytokichlmgepdpaa", sum := "05bf4207a60c52797fa44389da8d1a4a1276dfa98a1921879596fe478978e9d8", func := "chirograph/chirographlaw3.OtsAsks", spec := "otsAsks", unfollowed := true, recurses := true, apart := false, narrowed := true }
def OtsAsksUptoSaid : Prop := otsAsksUptoRow.holds Try.pinned (OpenSpec.upto otsAsksSpec)

/-- 'chirographlaw3.OtsArgs', WHERE WHAT IT READS IS OF BULK AT MOST 1048576: true; the input reads as it did. -/
def otsArgsUptoRow : OpenClaim := { program := "ytokichlmgepdpaa", sum := "05bf4207a60c52797fa44389da8d1a4a1276dfa98a1921879596fe478978e9d8", func := "chirograph/chirographlaw3.OtsArgs", spec := "otsArgs", unfollowed := true, recurses := true, apart := false, narrowed := true }
def OtsArgsUptoSaid : Prop := otsArgsUptoRow.holds Try.pinned (OpenSpec.upto otsArgsSpec)

/-- 'chirographlaw3.OtsHolds', WHERE WHAT IT READS IS OF BULK AT MOST 1048576: true; the input reads as it did. -/
def otsHoldsUptoRow : OpenClaim := { program := "ytokichlmgepdpaa", sum := "05bf4207a60c52797fa44389da8d1a4a1276dfa98a1921879596fe478978e9d8", func := "chirograph/chirographlaw3.OtsHolds", spec := "otsHolds", unfollowed := true, recurses := true, apart := false, narrowed := true }
def OtsHoldsUptoSaid : Prop := otsHoldsUptoRow.holds Try.pinned (OpenSpec.upto otsHoldsSpec)

/-- 'chirographlaw3.OtsForms', WHERE WHAT IT READS IS OF BULK AT MOST 1048576: true; the input reads as it did. -/
def otsFormsUptoRow : OpenClaim := { program := "ytokichlmgepdpaa", sum := "05bf4207a60c52797fa44389da8d1a4a1276dfa98a1921879596fe478978e9d8", func := "chirograph/chirographlaw3.OtsForms", spec := "otsForms", unfollowed := true, recurses := true, apart := false, narrowed := true }
def OtsFormsUptoSaid : Prop := otsFormsUptoRow.holds Try.pinned (OpenSpec.upto otsFormsSpec)

/-- 'chirographlaw3.OtsWide', WHERE WHAT IT READS IS OF BULK AT MOST 1048576: true; the input reads as it did. -/
def otsWideUptoRow : OpenClaim := { program := "ytokichlmgepdpaa", sum := "05bf4207a60c52797fa44389da8d1a4a1276dfa98a1921879596fe478978e9d8", func := "chirograph/chirographlaw3.OtsWide", spec := "otsWide", unfollowed := true, recurses := true, apart := false, narrowed := true }
def OtsWideUptoSaid : Prop := otsWideUptoRow.holds Try.pinned (OpenSpec.upto otsWideSpec)

end Rows
end Go.Proofs.Ytokichlmgepdpaa
