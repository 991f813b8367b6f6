/-
  No cell of these rows narrows 'for every input' (looked for: loops, veiled, ifaces, maps, wideKeys, modest, calm, conditions, laid).
  DERIVED. THE GIVEN ROWS OF THIS SEAT. 4 by the template 'for every input the law returns true; each argument reads behind the call as it read before'; 0 by the template 'total and deterministic' (their statements: YtjcnhpnadfhjaaaTotals.lean).
  GIVEN WITH THE SEED: the statements are not yours to turn. If you find one false, say at which input.
  Laid BY PROGRAM, IN A SANDBOX (cutbox-rows.mjs): the forced cells as the released guide's own fill.sh prints them over the translation 2200818ef7a596e8… (all of the seat's roots in one cut). By AI agents, Wed Nov 11 2026. No macro, syntax, notation, axiom, sorry.
-/
import Derived.Test.YtjcnhpnadfhjaaaChecked
import GoSem.Claim
import GoSem.ClaimJoined
import GoSem.ClaimMapViews
import Derived.JoinedTies
import Derived.KernelRfl
namespace Go.Proofs.Ytjcnhpnadfhjaaa
/- THE CELL 'sum', in the pinned program and in every row, IS THE sha256 OF THE DUMP (.gsa) THAT YtjcnhpnadfhjaaaProg.lean LOADS. Nothing in Lean hashes anything: it is a label: what it is worth is what the hold of that sum in a sandbox is worth. -/
noncomputable def Try.pinned : Pinned := { name := "ytjcnhpnadfhjaaa", sum := "2200818ef7a596e8c72eba04316a1d65838f6e8bc250ffecf31dbb1aa2061dea", checked := Try.checked }
namespace Rows
def none {H : Type} : Left H := { results := [], args := [] }

/-- 'chirographlaw20.ChunkForms': WHATEVER THE INPUT: true; the input reads as it did. -/
def chunkFormsSpec : ChangeSpec := { name := "chunkForms", fn := fun _ => fun
  | [d1, d2, d3] => { results := [.lit (.bool true)], args := [d1, d2, d3] }
  | _ => none }
def chunkFormsRow : OpenClaim := { program := "ytjcnhpnadfhjaaa", sum := "2200818ef7a596e8c72eba04316a1d65838f6e8bc250ffecf31dbb1aa2061dea", func := "chirograph/chirographlaw20.ChunkForms", spec := "chunkForms", unfollowed := true, recurses := true, apart := false }
def ChunkFormsSaid : Prop := chunkFormsRow.holds Try.pinned (OpenSpec.ofChange chunkFormsSpec)

/-- ITS FALSE NEIGHBOUR: 'it returns false'. Refute it at one input. -/
def chunkFormsWrong : ChangeSpec := { name := "chunkForms", fn := fun _ => fun
  | [d1, d2, d3] => { results := [.lit (.bool false)], args := [d1, d2, d3] }
  | _ => none }
def ChunkFormsWrongFalsely : Prop := chunkFormsRow.holds Try.pinned (OpenSpec.ofChange chunkFormsWrong)

/-- 'chirographlaw20.ChunkAsks': WHATEVER THE INPUT: true; the input reads as it did. -/
def chunkAsksSpec : ChangeSpec := { name := "chunkAsks", fn := fun _ => fun
  | [d1, d2, d3] => { results := [.lit (.bool true)], args := [d1, d2, d3] }
  | _ => none }
def chunkAsksRow : OpenClaim := { program := "ytjcnhpnadfhjaaa", sum := "2200818ef7a596e8c72eba04316a1d65838f6e8bc250ffecf31dbb1aa2061dea", func := "chirograph/chirographlaw20.ChunkAsks", spec := "chunkAsks", unfollowed := true, recurses := true, apart := false }
def ChunkAsksSaid : Prop := chunkAsksRow.holds Try.pinned (OpenSpec.ofChange chunkAsksSpec)

/-- ITS FALSE NEIGHBOUR: 'it returns false'. Refute it at one input. -/
def chunkAsksWrong : ChangeSpec := { name := "chunkAsks", fn := fun _ => fun
  | [d1, d2, d3] => { results := [.lit (.bool false)], args := [d1, d2, d3] }
  | _ => none }
def ChunkAsksWrongFalsely : Prop := chunkAsksRow.holds Try.pinned (OpenSpec.ofChange chunkAsksWrong)

/-- 'chirographlaw20.ChunkBack': WHATEVER THE INPUT: true; the input reads as it did. -/
def chunkBackSpec : ChangeSpec := { name := "chunkBack", fn := fun _ => fun
  | [d1, d2, d3] => { results := [.lit (.bool true)], args := [d1, d2, d3] }
  | _ => none }
def chunkBackRow : OpenClaim := { program := "ytjcnhpnadfhjaaa", sum := "2200818ef7a596e8c72eba04316a1d65838f6e8bc250ffecf31dbb1aa2061dea", func := "chirograph/chirographlaw20.ChunkBack", spec := "chunkBack", unfollowed := true, recurses := true, apart := false }
def ChunkBackSaid : Prop := chunkBackRow.holds Try.pinned (OpenSpec.ofChange chunkBackSpec)

/-- ITS FALSE NEIGHBOUR: 'it returns false'. Refute it at one input. -/
def chunkBackWrong : ChangeSpec := { name := "chunkBack", fn := fun _ => fun
  | [d1, d2, d3] => { results := [.lit (.bool false)], args := [d1, d2, d3] }
  | _ => none }
def ChunkBackWrongFalsely : Prop := chunkBackRow.holds Try.pinned (OpenSpec.ofChange chunkBackWrong)

/-- 'chirographlaw20.ChunkTurned': WHATEVER THE INPUT: true; the input reads as it did. -/
def chunkTurnedSpec : ChangeSpec := { name := "chunkTurned", fn := fun _ => fun
  | [d1, d2, d3] => { results := [.lit (.bool true)], args := [d1, d2, d3] }
  | _ => none }
def chunkTurnedRow : OpenClaim := { program := "ytjcnhpnadfhjaaa", sum := "2200818ef7a596e8c72eba04316a1d65838f6e8bc250ffecf31dbb1aa2061dea", func := "chirograph/chirographlaw20.ChunkTurned", spec := "chunkTurned", unfollowed := true, recurses := true, apart := false }
def ChunkTurnedSaid : Prop := chunkTurnedRow.holds Try.pinned (OpenSpec.ofChange chunkTurnedSpec)

/-- ITS FALSE NEIGHBOUR: 'it returns false'. Refute it at one input. -/
def chunkTurnedWrong : ChangeSpec := { name := "chunkTurned", fn := fun _ => fun
  | [d1, d2, d3] => { results := [.lit (.bool false)], args := [d1, d2, d3] }
  | _ => none }
def ChunkTurnedWrongFalsely : Prop := chunkTurnedRow.holds Try.pinned (OpenSpec.ofChange chunkTurnedWrong)

/- THE SECOND FORM. 'bulk': how many values and letters a reading holds, each counted each time it is reached (what is shared counts as often as it is met; a slice's spare places count too). A statement '..UptoSaid' is the law's where the arguments, and the package variables that the reading takes, are together of bulk at most 1048576: NARROWER than '..Said'. Prove '..Said' where nothing that the law and all that it calls make is longer than what came in: it says more and counts as full. Else prove '..UptoSaid'. A law counts once. -/
mutual
def uptoBulk {H : Type} : DataW H → Nat
  | .lit (.string bytes) => bytes.length + 1
  | .lit _ => 1
  | .nil => 1
  | .ptr d => uptoBulk d + 1
  | .slice elems spare => uptoBulkAll elems + uptoBulkAll spare + 1
  | .agg parts => uptoBulkAll parts + 1
  | .iface _ d => uptoBulk d + 1
  | .map entries => uptoBulkEntries entries + 1
  | .held _ => 1
def uptoBulkAll {H : Type} : List (DataW H) → Nat
  | [] => 0
  | d :: r => uptoBulk d + uptoBulkAll r
def uptoBulkEntries {H : Type} : List (Lit × DataW H) → Nat
  | [] => 0
  | x :: r => uptoBulkEntry x + uptoBulkEntries r
def uptoBulkEntry {H : Type} : Lit × DataW H → Nat
  | (.string bytes, d) => bytes.length + uptoBulk d + 1
  | (_, d) => uptoBulk d + 1
 end
def uptoSmall : (H : Type) → List (DataW H) → Bool := fun _ ds => decide (uptoBulkAll ds ≤ 1048576)
def OpenSpec.upto (s : _root_.Go.ChangeSpec) : _root_.Go.OpenSpec := { _root_.Go.OpenSpec.ofChange s with cond := some uptoSmall }

/-- 'chirographlaw20.ChunkForms', WHERE WHAT IT READS IS OF BULK AT MOST 1048576: true; the input reads as it did. -/
def chunkFormsUptoRow : OpenClaim := { program := "ytjcnhpnadfhjaaa", sum := "2200818ef7a596e8c72eba04316a1d65838f6e8bc250ffecf31dbb1aa2061dea", func := "chirograph/chirographlaw20.ChunkForms", spec := "chunkForms", unfollowed := true, recurses := true, apart := false, narrowed := true }
def ChunkFormsUptoSaid : Prop := chunkFormsUptoRow.holds Try.pinned (OpenSpec.upto chunkFormsSpec)

/-- 'chirographlaw20.ChunkAsks', WHERE WHAT IT READS IS OF BULK AT MOST 1048576: true; the input reads as it did. -/
def chunkAsksUptoRow : OpenClaim := { program := "ytjcnhpnadfhjaaa", sum := "2200818ef7a596e8c72eba04316a1d65838f6e8bc250ffecf31dbb1aa2061dea", func := "chirograph/chirographlaw20.ChunkAsks", spec := "chunkAsks", unfollowed := true, recurses := true, apart := false, narrowed := true }
def ChunkAsksUptoSaid : Prop := chunkAsksUptoRow.holds Try.pinned (OpenSpec.upto chunkAsksSpec)

/-- 'chirographlaw20.ChunkBack', WHERE WHAT IT READS IS OF BULK AT MOST 1048576: true; the input reads as it did. -/
def chunkBackUptoRow : OpenClaim := { program := "ytjcnhpnadfhjaaa", sum := "2200818ef7a596e8c72eba04316a1d65838f6e8bc250ffecf31dbb1aa2061dea", func := "chirograph/chirographlaw20.ChunkBack", spec := "chunkBack", unfollowed := true, recurses := true, apart := false, narrowed := true }
def ChunkBackUptoSaid : Prop := chunkBackUptoRow.holds Try.pinned (OpenSpec.upto chunkBackSpec)

/-- 'chirographlaw20.ChunkTurned', WHERE WHAT IT READS IS OF BULK AT MOST 1048576: true; the input reads as it did. -/
def chunkTurnedUptoRow : OpenClaim := { program := "ytjcnhpnadfhjaaa", sum := "2200818ef7a596e8c72eba04316a1d65838f6e8bc250ffecf31dbb1aa2061dea", func := "chirograph/chirographlaw20.ChunkTurned", spec := "chunkTurned", unfollowed := true, recurses := true, apart := false, narrowed := true }
def ChunkTurnedUptoSaid : Prop := chunkTurnedUptoRow.holds Try.pinned (OpenSpec.upto chunkTurnedSpec)

end Rows
end Go.Proofs.Ytjcnhpnadfhjaaa
