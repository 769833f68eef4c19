/-
  No cell of these rows narrows 'for every input' (looked for: loops, veiled, ifaces, maps, wideKeys, modest, calm, conditions, laid).
  DERIVED. THE GIVEN ROWS OF THIS SEAT. 7 by the template 'for every input the law returns true; each argument reads behind the call as it read before'; 0 by the template 'total and deterministic' (their statements: YtalbhghigdanlaaTotals.lean).
  GIVEN WITH THE SEED: the statements are not yours to turn. If you find one false, say at which input.
  Laid BY PROGRAM, IN A SANDBOX (cutbox-rows.mjs): the forced cells as the released guide's own fill.sh prints them over the translation 7e964542ca780c4a… (all of the seat's roots in one cut). By AI agents, Wed Nov 11 2026. No macro, syntax, notation, axiom, sorry.
-/
import Derived.Test.YtalbhghigdanlaaChecked
import GoSem.Claim
import GoSem.ClaimJoined
import GoSem.ClaimMapViews
import Derived.JoinedTies
import Derived.KernelRfl
namespace Go.Proofs.Ytalbhghigdanlaa
/- THE CELL 'sum', in the pinned program and in every row, IS THE sha256 OF THE DUMP (.gsa) THAT YtalbhghigdanlaaProg.lean LOADS. Nothing in Lean hashes anything: it is a label: what it is worth is what the hold of that sum in a sandbox is worth. -/
noncomputable def Try.pinned : Pinned := { name := "ytalbhghigdanlaa", sum := "7e964542ca780c4a4fb4144a64717c9ecb1d1d05a04b7db07f07b60bc2972b0f", checked := Try.checked }
namespace Rows
def none {H : Type} : Left H := { results := [], args := [] }

/-- 'customhouselaw13.AssignCheapest': WHATEVER THE INPUT: true; the input reads as it did. -/
def assignCheapestSpec : ChangeSpec := { name := "assignCheapest", fn := fun _ => fun
  | [d1, d2, d3, d4] => { results := [.lit (.bool true)], args := [d1, d2, d3, d4] }
  | _ => none }
def assignCheapestRow : OpenClaim := { program := "ytalbhghigdanlaa", sum := "7e964542ca780c4a4fb4144a64717c9ecb1d1d05a04b7db07f07b60bc2972b0f", func := "customhouse/customhouselaw13.AssignCheapest", spec := "assignCheapest", unfollowed := true, recurses := true, apart := false }
def AssignCheapestSaid : Prop := assignCheapestRow.holds Try.pinned (OpenSpec.ofChange assignCheapestSpec)

/-- ITS FALSE NEIGHBOUR: 'it returns false'. Refute it at one input. -/
def assignCheapestWrong : ChangeSpec := { name := "assignCheapest", fn := fun _ => fun
  | [d1, d2, d3, d4] => { results := [.lit (.bool false)], args := [d1, d2, d3, d4] }
  | _ => none }
def AssignCheapestWrongFalsely : Prop := assignCheapestRow.holds Try.pinned (OpenSpec.ofChange assignCheapestWrong)

/-- 'customhouselaw13.AssignPotentials': WHATEVER THE INPUT: true; the input reads as it did. -/
def assignPotentialsSpec : ChangeSpec := { name := "assignPotentials", fn := fun _ => fun
  | [d1, d2, d3, d4, d5] => { results := [.lit (.bool true)], args := [d1, d2, d3, d4, d5] }
  | _ => none }
def assignPotentialsRow : OpenClaim := { program := "ytalbhghigdanlaa", sum := "7e964542ca780c4a4fb4144a64717c9ecb1d1d05a04b7db07f07b60bc2972b0f", func := "customhouse/customhouselaw13.AssignPotentials", spec := "assignPotentials", unfollowed := true, recurses := true, apart := false }
def AssignPotentialsSaid : Prop := assignPotentialsRow.holds Try.pinned (OpenSpec.ofChange assignPotentialsSpec)

/-- ITS FALSE NEIGHBOUR: 'it returns false'. Refute it at one input. -/
def assignPotentialsWrong : ChangeSpec := { name := "assignPotentials", fn := fun _ => fun
  | [d1, d2, d3, d4, d5] => { results := [.lit (.bool false)], args := [d1, d2, d3, d4, d5] }
  | _ => none }
def AssignPotentialsWrongFalsely : Prop := assignPotentialsRow.holds Try.pinned (OpenSpec.ofChange assignPotentialsWrong)

/-- 'customhouselaw13.AssignTurned': WHATEVER THE INPUT: true; the input reads as it did. -/
def assignTurnedSpec : ChangeSpec := { name := "assignTurned", fn := fun _ => fun
  | [d1, d2, d3, d4, d5] => { results := [.lit (.bool true)], args := [d1, d2, d3, d4, d5] }
  | _ => none }
def assignTurnedRow : OpenClaim := { program := "ytalbhghigdanlaa", sum := "7e964542ca780c4a4fb4144a64717c9ecb1d1d05a04b7db07f07b60bc2972b0f", func := "customhouse/customhouselaw13.AssignTurned", spec := "assignTurned", unfollowed := true, recurses := true, apart := false }
def AssignTurnedSaid : Prop := assignTurnedRow.holds Try.pinned (OpenSpec.ofChange assignTurnedSpec)

/-- ITS FALSE NEIGHBOUR: 'it returns false'. Refute it at one input. -/
def assignTurnedWrong : ChangeSpec := { name := "assignTurned", fn := fun _ => fun
  | [d1, d2, d3, d4, d5] => { results := [.lit (.bool false)], args := [d1, d2, d3, d4, d5] }
  | _ => none }
def AssignTurnedWrongFalsely : Prop := assignTurnedRow.holds Try.pinned (OpenSpec.ofChange assignTurnedWrong)

/-- 'customhouselaw13.AssignChanges': WHATEVER THE INPUT: true; the input reads as it did. -/
def assignChangesSpec : ChangeSpec := { name := "assignChanges", fn := fun _ => fun
  | [d1, d2, d3, d4, d5, d6, d7] => { results := [.lit (.bool true)], args := [d1, d2, d3, d4, d5, d6, d7] }
  | _ => none }
def assignChangesRow : OpenClaim := { program := "ytalbhghigdanlaa", sum := "7e964542ca780c4a4fb4144a64717c9ecb1d1d05a04b7db07f07b60bc2972b0f", func := "customhouse/customhouselaw13.AssignChanges", spec := "assignChanges", unfollowed := true, recurses := true, apart := false }
def AssignChangesSaid : Prop := assignChangesRow.holds Try.pinned (OpenSpec.ofChange assignChangesSpec)

/-- ITS FALSE NEIGHBOUR: 'it returns false'. Refute it at one input. -/
def assignChangesWrong : ChangeSpec := { name := "assignChanges", fn := fun _ => fun
  | [d1, d2, d3, d4, d5, d6, d7] => { results := [.lit (.bool false)], args := [d1, d2, d3, d4, d5, d6, d7] }
  | _ => none }
def AssignChangesWrongFalsely : Prop := assignChangesRow.holds Try.pinned (OpenSpec.ofChange assignChangesWrong)

/-- 'customhouselaw13.AssignMatchesReference': WHATEVER THE INPUT: true; the input reads as it did. -/
def assignMatchesReferenceSpec : ChangeSpec := { name := "assignMatchesReference", fn := fun _ => fun
  | [d1, d2, d3, d4, d5, d6] => { results := [.lit (.bool true)], args := [d1, d2, d3, d4, d5, d6] }
  | _ => none }
def assignMatchesReferenceRow : OpenClaim := { program := "ytalbhghigdanlaa", sum := "7e964542ca780c4a4fb4144a64717c9ecb1d1d05a04b7db07f07b60bc2972b0f", func := "customhouse/customhouselaw13.AssignMatchesReference", spec := "assignMatchesReference", unfollowed := true, recurses := true, apart := false }
def AssignMatchesReferenceSaid : Prop := assignMatchesReferenceRow.holds Try.pinned (OpenSpec.ofChange assignMatchesReferenceSpec)

/-- ITS FALSE NEIGHBOUR: 'it returns false'. Refute it at one input. -/
def assignMatchesReferenceWrong : ChangeSpec := { name := "assignMatchesReference", fn := fun _ => fun
  | [d1, d2, d3, d4, d5, d6] => { results := [.lit (.bool false)], args := [d1, d2, d3, d4, d5, d6] }
  | _ => none }
def AssignMatchesReferenceWrongFalsely : Prop := assignMatchesReferenceRow.holds Try.pinned (OpenSpec.ofChange assignMatchesReferenceWrong)

/-- 'customhouselaw13.AssignBounds': WHATEVER THE INPUT: true; the input reads as it did. -/
def assignBoundsSpec : ChangeSpec := { name := "assignBounds", fn := fun _ => fun
  | [d1, d2, d3, d4, d5, d6, d7] => { results := [.lit (.bool true)], args := [d1, d2, d3, d4, d5, d6, d7] }
  | _ => none }
def assignBoundsRow : OpenClaim := { program := "ytalbhghigdanlaa", sum := "7e964542ca780c4a4fb4144a64717c9ecb1d1d05a04b7db07f07b60bc2972b0f", func := "customhouse/customhouselaw13.AssignBounds", spec := "assignBounds", unfollowed := true, recurses := true, apart := false }
def AssignBoundsSaid : Prop := assignBoundsRow.holds Try.pinned (OpenSpec.ofChange assignBoundsSpec)

/-- ITS FALSE NEIGHBOUR: 'it returns false'. Refute it at one input. -/
def assignBoundsWrong : ChangeSpec := { name := "assignBounds", fn := fun _ => fun
  | [d1, d2, d3, d4, d5, d6, d7] => { results := [.lit (.bool false)], args := [d1, d2, d3, d4, d5, d6, d7] }
  | _ => none }
def AssignBoundsWrongFalsely : Prop := assignBoundsRow.holds Try.pinned (OpenSpec.ofChange assignBoundsWrong)

/-- 'customhouselaw13.AssignOrdered': WHATEVER THE INPUT: true; the input reads as it did. -/
def assignOrderedSpec : ChangeSpec := { name := "assignOrdered", fn := fun _ => fun
  | [d1, d2, d3, d4, d5] => { results := [.lit (.bool true)], args := [d1, d2, d3, d4, d5] }
  | _ => none }
def assignOrderedRow : OpenClaim := { program := "ytalbhghigdanlaa", sum := "7e964542ca780c4a4fb4144a64717c9ecb1d1d05a04b7db07f07b60bc2972b0f", func := "customhouse/customhouselaw13.AssignOrdered", spec := "assignOrdered", unfollowed := true, recurses := true, apart := false }
def AssignOrderedSaid : Prop := assignOrderedRow.holds Try.pinned (OpenSpec.ofChange assignOrderedSpec)

/-- ITS FALSE NEIGHBOUR: 'it returns false'. Refute it at one input. -/
def assignOrderedWrong : ChangeSpec := { name := "assignOrdered", fn := fun _ => fun
  | [d1, d2, d3, d4, d5] => { results := [.lit (.bool false)], args := [d1, d2, d3, d4, d5] }
  | _ => none }
def AssignOrderedWrongFalsely : Prop := assignOrderedRow.holds Try.pinned (OpenSpec.ofChange assignOrderedWrong)

/- THE SECOND FORM. 'bulk': how many values and letters a reading holds, each counted each time it is reached (what is shared counts as often as it is met; a slice's spare places count too). A statement '..UptoSaid' is the law's where the arguments, and the package variables that the reading takes, are together of bulk at most 1048576: NARROWER than '..Said'. Prove '..Said' where nothing that the law and all that it calls make is longer than what came in: it says more and counts as full. Else prove '..UptoSaid'. A law counts once. -/
mutual
def uptoBulk {H : Type} : DataW H → Nat
  | .lit (.string bytes) => bytes.length + 1
  | .lit _ => 1
  | .nil => 1
  | .ptr d => uptoBulk d + 1
  | .slice elems spare => uptoBulkAll elems + uptoBulkAll spare + 1
  | .agg parts => uptoBulkAll parts + 1
  | .iface _ d => uptoBulk d + 1
  | .map entries => uptoBulkEntries entries + 1
  | .held _ => 1
def uptoBulkAll {H : Type} : List (DataW H) → Nat
  | [] => 0
  | d :: r => uptoBulk d + uptoBulkAll r
def uptoBulkEntries {H : Type} : List (Lit × DataW H) → Nat
  | [] => 0
  | x :: r => uptoBulkEntry x + uptoBulkEntries r
def uptoBulkEntry {H : Type} : Lit × DataW H → Nat
  | (.string bytes, d) => bytes.length + uptoBulk d + 1
  | (_, d) => uptoBulk d + 1
 end
def uptoSmall : (H : Type) → List (DataW H) → Bool := fun _ ds => decide (uptoBulkAll ds ≤ 1048576)
def OpenSpec.upto (s : _root_.Go.ChangeSpec) : _root_.Go.OpenSpec := { _root_.Go.OpenSpec.ofChange s with cond := some uptoSmall }

/-- 'customhouselaw13.AssignCheapest', WHERE WHAT IT READS IS OF BULK AT MOST 1048576: true; the input reads as it did. -/
def assignCheapestUptoRow : OpenClaim := { program := "ytalbhghigdanlaa", sum := "7e964542ca780c4a4fb4144a64717c9ecb1d1d05a04b7db07f07b60bc2972b0f", func := "customhouse/customhouselaw13.AssignCheapest", spec := "assignCheapest", unfollowed := true, recurses := true, apart := false, narrowed := true }
def AssignCheapestUptoSaid : Prop := assignCheapestUptoRow.holds Try.pinned (OpenSpec.upto assignCheapestSpec)

/-- 'customhouselaw13.AssignPotentials', WHERE WHAT IT READS IS OF BULK AT MOST 1048576: true; the input reads as it did. -/
def assignPotentialsUptoRow : OpenClaim := { program := "ytalbhghigdanlaa", sum := "7e964542ca780c4a4fb4144a64717c9ecb1d1d05a04b7db07f07b60bc2972b0f", func := "customhouse/customhouselaw13.AssignPotentials", spec := "assignPotentials", unfollowed := true, recurses := true, apart := false, narrowed := true }
def AssignPotentialsUptoSaid : Prop := assignPotentialsUptoRow.holds Try.pinned (OpenSpec.upto assignPotentialsSpec)

/-- 'customhouselaw13.AssignTurned', WHERE WHAT IT READS IS OF BULK AT MOST 1048576: true; the input reads as it did. -/
def assignTurnedUptoRow : OpenClaim := { program := "ytalbhghigdanlaa", sum := "7e964542ca780c4a4fb4144a64717c9ecb1d1d05a04b7db07f07b60bc2972b0f", func := "customhouse/customhouselaw13.AssignTurned", spec := "assignTurned", unfollowed := true, recurses := true, apart := false, narrowed := true }
def AssignTurnedUptoSaid : Prop := assignTurnedUptoRow.holds Try.pinned (OpenSpec.upto assignTurnedSpec)

/-- 'customhouselaw13.AssignChanges', WHERE WHAT IT READS IS OF BULK AT MOST 1048576: true; the input reads as it did. -/
def assignChangesUptoRow : OpenClaim := { program := "ytalbhghigdanlaa", sum := "7e964542ca780c4a4fb4144a64717c9ecb1d1d05a04b7db07f07b60bc2972b0f", func := "customhouse/customhouselaw13.AssignChanges", spec := "assignChanges", unfollowed := true, recurses := true, apart := false, narrowed := true }
def AssignChangesUptoSaid : Prop := assignChangesUptoRow.holds Try.pinned (OpenSpec.upto assignChangesSpec)

/-- 'customhouselaw13.AssignMatchesReference', WHERE WHAT IT READS IS OF BULK AT MOST 1048576: true; the input reads as it did. -/
def assignMatchesReferenceUptoRow : OpenClaim := { program := "ytalbhghigdanlaa", sum := "7e964542ca780c4a4fb4144a64717c9ecb1d1d05a04b7db07f07b60bc2972b0f", func := "customhouse/customhouselaw13.AssignMatchesReference", spec := "assignMatchesReference", unfollowed := true, recurses := true, apart := false, narrowed := true }
def AssignMatchesReferenceUptoSaid : Prop := assignMatchesReferenceUptoRow.holds Try.pinned (OpenSpec.upto assignMatchesReferenceSpec)

/-- 'customhouselaw13.AssignBounds', WHERE WHAT IT READS IS OF BULK AT MOST 1048576: true; the input reads as it did. -/
def assignBoundsUptoRow : OpenClaim := { program := "ytalbhghigdanlaa", sum := "7e964542ca780c4a4fb4144a64717c9ecb1d1d05a04b7db07f07b60bc2972b0f", func := "customhouse/customhouselaw13.AssignBounds", spec := "assignBounds", unfollowed := true, recurses := true, apart := false, narrowed := true }
def AssignBoundsUptoSaid : Prop := assignBoundsUptoRow.holds Try.pinned (OpenSpec.upto assignBoundsSpec)

/-- 'customhouselaw13.AssignOrdered', WHERE WHAT IT READS IS OF BULK AT MOST 1048576: true; the input reads as it did. -/
def assignOrderedUptoRow : OpenClaim := { program := "ytalbhghigdanlaa", sum := "7e964542ca780c4a4fb4144a64717c9ecb1d1d05a04b7db07f07b60bc2972b0f", func := "customhouse/customhouselaw13.AssignOrdered", spec := "assignOrdered", unfollowed := true, recurses := true, apart := false, narrowed := true }
def AssignOrderedUptoSaid : Prop := assignOrderedUptoRow.holds Try.pinned (OpenSpec.upto assignOrderedSpec)

end Rows
end Go.Proofs.Ytalbhghigdanlaa
