/-
  DERIVED. GIVEN WITH THE SEED: THE CARDS: each row of YtnppgomhhcbplaaGreatDoorRows.lean that lists a variable, with what it lists TIED to the program's text (the seventh form; the later family's looks); each row that meets fmt, with fmt's text TOLD by the authors' own Lean function (tested against real Go, not proved from fmt's source: count such statements apart). THE CARD IS WHAT COUNTS. Prove the row's statement (the work); the ties are given (YtnppgomhhcbplaaGreatDoorTie.lean); close each card by the builder's one call (the guide's Derived/Test/ToyasCard.lean, 'card_holds'). Laid BY PROGRAM, IN A SANDBOX (cutbox-door.mjs). By AI agents, Wed Nov 11 2026. No macro, syntax, notation, axiom, sorry.
-/
import Derived.Test.YtnppgomhhcbplaaGreatDoorRows
import GoSem.ClaimSeven
namespace Go.Proofs.YtnppgomhhcbplaaGreatDoor
namespace Rows

/-- THE TIED CARD OF 'customhouselaw12.PotentialMatchesReference'. -/
def potentialMatchesReferenceCard : Claim7 := { stood := { row := potentialMatchesReferenceRow, standIns := [], harness := (true, "b6c6fe9404634e146bf58be83ebceb0db8deadc33ea28740c2151854e67fb865"), looks := false }, kinds := [], alts := [], laidByText := true, laidKinds := [.data, .pinned, .pinned], laidTests := true, laidLooks := .later }
def PotentialMatchesReferenceCardSaid : Prop := Claim7.holds Tryz.pinned (.plain (OpenSpec.ofChange potentialMatchesReferenceSpec)) potentialMatchesReferenceCard

/-- THE TIED CARD OF 'customhouselaw12.PotentialLess'. -/
def potentialLessCard : Claim7 := { stood := { row := potentialLessRow, standIns := [], harness := (true, "b6c6fe9404634e146bf58be83ebceb0db8deadc33ea28740c2151854e67fb865"), looks := false }, kinds := [], alts := [], laidByText := true, laidKinds := [.data, .pinned, .pinned], laidTests := true, laidLooks := .later }
def PotentialLessCardSaid : Prop := Claim7.holds Tryz.pinned (.plain (OpenSpec.ofChange potentialLessSpec)) potentialLessCard

/-- THE TIED CARD OF 'customhouselaw12.PotentialFewer'. -/
def potentialFewerCard : Claim7 := { stood := { row := potentialFewerRow, standIns := [], harness := (true, "b6c6fe9404634e146bf58be83ebceb0db8deadc33ea28740c2151854e67fb865"), looks := false }, kinds := [], alts := [], laidByText := true, laidKinds := [.data, .pinned, .pinned], laidTests := true, laidLooks := .later }
def PotentialFewerCardSaid : Prop := Claim7.holds Tryz.pinned (.plain (OpenSpec.ofChange potentialFewerSpec)) potentialFewerCard

/-- THE TIED CARD OF 'customhouselaw12.PotentialDearer'. -/
def potentialDearerCard : Claim7 := { stood := { row := potentialDearerRow, standIns := [], harness := (true, "b6c6fe9404634e146bf58be83ebceb0db8deadc33ea28740c2151854e67fb865"), looks := false }, kinds := [], alts := [], laidByText := true, laidKinds := [.data, .pinned, .pinned], laidTests := true, laidLooks := .later }
def PotentialDearerCardSaid : Prop := Claim7.holds Tryz.pinned (.plain (OpenSpec.ofChange potentialDearerSpec)) potentialDearerCard

/-- THE TIED CARD OF 'customhouselaw12.PotentialTurned'. -/
def potentialTurnedCard : Claim7 := { stood := { row := potentialTurnedRow, standIns := [], harness := (true, "b6c6fe9404634e146bf58be83ebceb0db8deadc33ea28740c2151854e67fb865"), looks := false }, kinds := [], alts := [], laidByText := true, laidKinds := [.data, .pinned, .pinned], laidTests := true, laidLooks := .later }
def PotentialTurnedCardSaid : Prop := Claim7.holds Tryz.pinned (.plain (OpenSpec.ofChange potentialTurnedSpec)) potentialTurnedCard

/-- THE TIED CARD OF 'customhouselaw12.PotentialBounds'. -/
def potentialBoundsCard : Claim7 := { stood := { row := potentialBoundsRow, standIns := [], harness := (true, "b6c6fe9404634e146bf58be83ebceb0db8deadc33ea28740c2151854e67fb865"), looks := false }, kinds := [], alts := [], laidByText := true, laidKinds := [.data, .pinned, .pinned], laidTests := true, laidLooks := .later }
def PotentialBoundsCardSaid : Prop := Claim7.holds Tryz.pinned (.plain (OpenSpec.ofChange potentialBoundsSpec)) potentialBoundsCard

/-- THE TIED CARD OF 'customhouselaw12.PotentialComplete'. -/
def potentialCompleteCard : Claim7 := { stood := { row := potentialCompleteRow, standIns := [], harness := (true, "b6c6fe9404634e146bf58be83ebceb0db8deadc33ea28740c2151854e67fb865"), looks := false }, kinds := [], alts := [], laidByText := true, laidKinds := [.data, .pinned, .pinned], laidTests := true, laidLooks := .later }
def PotentialCompleteCardSaid : Prop := Claim7.holds Tryz.pinned (.plain (OpenSpec.ofChange potentialCompleteSpec)) potentialCompleteCard

/-- THE TIED CARD OF 'customhouselaw12.PotentialStates'. -/
def potentialStatesCard : Claim7 := { stood := { row := potentialStatesRow, standIns := [], harness := (true, "b6c6fe9404634e146bf58be83ebceb0db8deadc33ea28740c2151854e67fb865"), looks := false }, kinds := [], alts := [], laidByText := true, laidKinds := [.data, .pinned, .pinned], laidTests := true, laidLooks := .later }
def PotentialStatesCardSaid : Prop := Claim7.holds Tryz.pinned (.plain (OpenSpec.ofChange potentialStatesSpec)) potentialStatesCard

/-- THE TIED CARD OF 'customhouselaw12.PotentialSound'. -/
def potentialSoundCard : Claim7 := { stood := { row := potentialSoundRow, standIns := [], harness := (true, "b6c6fe9404634e146bf58be83ebceb0db8deadc33ea28740c2151854e67fb865"), looks := false }, kinds := [], alts := [], laidByText := true, laidKinds := [.data, .pinned, .pinned], laidTests := true, laidLooks := .later }
def PotentialSoundCardSaid : Prop := Claim7.holds Tryz.pinned (.plain (OpenSpec.ofChange potentialSoundSpec)) potentialSoundCard

/-- THE SECOND FORM's CARD OF 'customhouselaw12.PotentialMatchesReference'. -/
def potentialMatchesReferenceUptoCard : Claim7 := { stood := { row := potentialMatchesReferenceUptoRow, standIns := [], harness := (true, "b6c6fe9404634e146bf58be83ebceb0db8deadc33ea28740c2151854e67fb865"), looks := false }, kinds := [], alts := [], laidByText := true, laidKinds := [.data, .pinned, .pinned], laidTests := true, laidLooks := .later }
def PotentialMatchesReferenceUptoCardSaid : Prop := Claim7.holds Tryz.pinned (.plain (OpenSpec.upto potentialMatchesReferenceSpec)) potentialMatchesReferenceUptoCard

/-- THE SECOND FORM's CARD OF 'customhouselaw12.PotentialLess'. -/
def potentialLessUptoCard : Claim7 := { stood := { row := potentialLessUptoRow, standIns := [], harness := (true, "b6c6fe9404634e146bf58be83ebceb0db8deadc33ea28740c2151854e67fb865"), looks := false }, kinds := [], alts := [], laidByText := true, laidKinds := [.data, .pinned, .pinned], laidTests := true, laidLooks := .later }
def PotentialLessUptoCardSaid : Prop := Claim7.holds Tryz.pinned (.plain (OpenSpec.upto potentialLessSpec)) potentialLessUptoCard

/-- THE SECOND FORM's CARD OF 'customhouselaw12.PotentialFewer'. -/
def potentialFewerUptoCard : Claim7 := { stood := { row := potentialFewerUptoRow, standIns := [], harness := (true, "b6c6fe9404634e146bf58be83ebceb0db8deadc33ea28740c2151854e67fb865"), looks := false }, kinds := [], alts := [], laidByText := true, laidKinds := [.data, .pinned, .pinned], laidTests := true, laidLooks := .later }
def PotentialFewerUptoCardSaid : Prop := Claim7.holds Tryz.pinned (.plain (OpenSpec.upto potentialFewerSpec)) potentialFewerUptoCard

/-- THE SECOND FORM's CARD OF 'customhouselaw12.PotentialDearer'. -/
def potentialDearerUptoCard : Claim7 := { stood := { row := potentialDearerUptoRow, standIns := [], harness := (true, "b6c6fe9404634e146bf58be83ebceb0db8deadc33ea28740c2151854e67fb865"), looks := false }, kinds := [], alts := [], laidByText := true, laidKinds := [.data, .pinned, .pinned], laidTests := true, laidLooks := .later }
def PotentialDearerUptoCardSaid : Prop := Claim7.holds Tryz.pinned (.plain (OpenSpec.upto potentialDearerSpec)) potentialDearerUptoCard

/-- THE SECOND FORM's CARD OF 'customhouselaw12.PotentialTurned'. -/
def potentialTurnedUptoCard : Claim7 := { stood := { row := potentialTurnedUptoRow, standIns := [], harness := (true, "b6c6fe9404634e146bf58be83ebceb0db8deadc33ea28740c2151854e67fb865"), looks := false }, kinds := [], alts := [], laidByText := true, laidKinds := [.data, .pinned, .pinned], laidTests := true, laidLooks := .later }
def PotentialTurnedUptoCardSaid : Prop := Claim7.holds Tryz.pinned (.plain (OpenSpec.upto potentialTurnedSpec)) potentialTurnedUptoCard

/-- THE SECOND FORM's CARD OF 'customhouselaw12.PotentialBounds'. -/
def potentialBoundsUptoCard : Claim7 := { stood := { row := potentialBoundsUptoRow, standIns := [], harness := (true, "b6c6fe9404634e146bf58be83ebceb0db8deadc33ea28740c2151854e67fb865"), looks := false }, kinds := [], alts := [], laidByText := true, laidKinds := [.data, .pinned, .pinned], laidTests := true, laidLooks := .later }
def PotentialBoundsUptoCardSaid : Prop := Claim7.holds Tryz.pinned (.plain (OpenSpec.upto potentialBoundsSpec)) potentialBoundsUptoCard

/-- THE SECOND FORM's CARD OF 'customhouselaw12.PotentialComplete'. -/
def potentialCompleteUptoCard : Claim7 := { stood := { row := potentialCompleteUptoRow, standIns := [], harness := (true, "b6c6fe9404634e146bf58be83ebceb0db8deadc33ea28740c2151854e67fb865"), looks := false }, kinds := [], alts := [], laidByText := true, laidKinds := [.data, .pinned, .pinned], laidTests := true, laidLooks := .later }
def PotentialCompleteUptoCardSaid : Prop := Claim7.holds Tryz.pinned (.plain (OpenSpec.upto potentialCompleteSpec)) potentialCompleteUptoCard

/-- THE SECOND FORM's CARD OF 'customhouselaw12.PotentialStates'. -/
def potentialStatesUptoCard : Claim7 := { stood := { row := potentialStatesUptoRow, standIns := [], harness := (true, "b6c6fe9404634e146bf58be83ebceb0db8deadc33ea28740c2151854e67fb865"), looks := false }, kinds := [], alts := [], laidByText := true, laidKinds := [.data, .pinned, .pinned], laidTests := true, laidLooks := .later }
def PotentialStatesUptoCardSaid : Prop := Claim7.holds Tryz.pinned (.plain (OpenSpec.upto potentialStatesSpec)) potentialStatesUptoCard

/-- THE SECOND FORM's CARD OF 'customhouselaw12.PotentialSound'. -/
def potentialSoundUptoCard : Claim7 := { stood := { row := potentialSoundUptoRow, standIns := [], harness := (true, "b6c6fe9404634e146bf58be83ebceb0db8deadc33ea28740c2151854e67fb865"), looks := false }, kinds := [], alts := [], laidByText := true, laidKinds := [.data, .pinned, .pinned], laidTests := true, laidLooks := .later }
def PotentialSoundUptoCardSaid : Prop := Claim7.holds Tryz.pinned (.plain (OpenSpec.upto potentialSoundSpec)) potentialSoundUptoCard
end Rows
end Go.Proofs.YtnppgomhhcbplaaGreatDoor
