/-
  DERIVED. GIVEN WITH THE SEED: THE CARDS: each row of YtbioiclabmbedaaGreatDoorRows.lean that lists a variable, with what it lists TIED to the program's text (the seventh form; the later family's looks); each row that meets fmt, with fmt's text TOLD by the authors' own Lean function (tested against real Go, not proved from fmt's source: count such statements apart). THE CARD IS WHAT COUNTS. Prove the row's statement (the work); the ties are given (YtbioiclabmbedaaGreatDoorTie.lean); close each card by the builder's one call (the guide's Derived/Test/ToyasCard.lean, 'card_holds'). Laid BY PROGRAM, IN A SANDBOX (cutbox-door.mjs). By AI agents, Wed Nov 11 2026. No macro, syntax, notation, axiom, sorry.
-/
import Derived.Test.YtbioiclabmbedaaGreatDoorRows
import GoSem.ClaimSeven
namespace Go.Proofs.YtbioiclabmbedaaGreatDoor
namespace Rows

/-- THE TIED CARD OF 'customhouselaw15.SilenceComplete'. -/
def silenceCompleteCard : Claim7 := { stood := { row := silenceCompleteRow, standIns := [], harness := (true, "73cf19adbde0c0f6eece7d4bf68198f86895e45ea3aed79f1e6d5c0cf6b82d78"), looks := false }, kinds := [], alts := [], laidByText := true, laidKinds := [.data, .pinned, .pinned], laidTests := true, laidLooks := .later }
def SilenceCompleteCardSaid : Prop := Claim7.holds Tryz.pinned (.plain (OpenSpec.ofChange silenceCompleteSpec)) silenceCompleteCard

/-- THE TIED CARD OF 'customhouselaw15.SilenceFewer'. -/
def silenceFewerCard : Claim7 := { stood := { row := silenceFewerRow, standIns := [], harness := (true, "73cf19adbde0c0f6eece7d4bf68198f86895e45ea3aed79f1e6d5c0cf6b82d78"), looks := false }, kinds := [], alts := [], laidByText := true, laidKinds := [.data, .pinned, .pinned], laidTests := true, laidLooks := .later }
def SilenceFewerCardSaid : Prop := Claim7.holds Tryz.pinned (.plain (OpenSpec.ofChange silenceFewerSpec)) silenceFewerCard

/-- THE TIED CARD OF 'customhouselaw15.SilenceDearer'. -/
def silenceDearerCard : Claim7 := { stood := { row := silenceDearerRow, standIns := [], harness := (true, "73cf19adbde0c0f6eece7d4bf68198f86895e45ea3aed79f1e6d5c0cf6b82d78"), looks := false }, kinds := [], alts := [], laidByText := true, laidKinds := [.data, .pinned, .pinned], laidTests := true, laidLooks := .later }
def SilenceDearerCardSaid : Prop := Claim7.holds Tryz.pinned (.plain (OpenSpec.ofChange silenceDearerSpec)) silenceDearerCard

/-- THE TIED CARD OF 'customhouselaw15.SilenceTurned'. -/
def silenceTurnedCard : Claim7 := { stood := { row := silenceTurnedRow, standIns := [], harness := (true, "73cf19adbde0c0f6eece7d4bf68198f86895e45ea3aed79f1e6d5c0cf6b82d78"), looks := false }, kinds := [], alts := [], laidByText := true, laidKinds := [.data, .pinned, .pinned], laidTests := true, laidLooks := .later }
def SilenceTurnedCardSaid : Prop := Claim7.holds Tryz.pinned (.plain (OpenSpec.ofChange silenceTurnedSpec)) silenceTurnedCard

/-- THE TIED CARD OF 'customhouselaw15.SilenceNothing'. -/
def silenceNothingCard : Claim7 := { stood := { row := silenceNothingRow, standIns := [], harness := (true, "73cf19adbde0c0f6eece7d4bf68198f86895e45ea3aed79f1e6d5c0cf6b82d78"), looks := false }, kinds := [], alts := [], laidByText := true, laidKinds := [.data, .pinned, .pinned], laidTests := true, laidLooks := .later }
def SilenceNothingCardSaid : Prop := Claim7.holds Tryz.pinned (.plain (OpenSpec.ofChange silenceNothingSpec)) silenceNothingCard

/-- THE TIED CARD OF 'customhouselaw15.SilenceWords'. -/
def silenceWordsCard : Claim7 := { stood := { row := silenceWordsRow, standIns := [], harness := (true, "73cf19adbde0c0f6eece7d4bf68198f86895e45ea3aed79f1e6d5c0cf6b82d78"), looks := false }, kinds := [], alts := [], laidByText := true, laidKinds := [.data, .pinned, .pinned], laidTests := true, laidLooks := .later }
def SilenceWordsCardSaid : Prop := Claim7.holds Tryz.pinned (.plain (OpenSpec.ofChange silenceWordsSpec)) silenceWordsCard

/-- THE TIED CARD OF 'customhouselaw15.SilenceSound'. -/
def silenceSoundCard : Claim7 := { stood := { row := silenceSoundRow, standIns := [], harness := (true, "73cf19adbde0c0f6eece7d4bf68198f86895e45ea3aed79f1e6d5c0cf6b82d78"), looks := false }, kinds := [], alts := [], laidByText := true, laidKinds := [.data, .pinned, .pinned], laidTests := true, laidLooks := .later }
def SilenceSoundCardSaid : Prop := Claim7.holds Tryz.pinned (.plain (OpenSpec.ofChange silenceSoundSpec)) silenceSoundCard

/-- THE SECOND FORM's CARD OF 'customhouselaw15.SilenceComplete'. -/
def silenceCompleteUptoCard : Claim7 := { stood := { row := silenceCompleteUptoRow, standIns := [], harness := (true, "73cf19adbde0c0f6eece7d4bf68198f86895e45ea3aed79f1e6d5c0cf6b82d78"), looks := false }, kinds := [], alts := [], laidByText := true, laidKinds := [.data, .pinned, .pinned], laidTests := true, laidLooks := .later }
def SilenceCompleteUptoCardSaid : Prop := Claim7.holds Tryz.pinned (.plain (OpenSpec.upto silenceCompleteSpec)) silenceCompleteUptoCard

/-- THE SECOND FORM's CARD OF 'customhouselaw15.SilenceFewer'. -/
def silenceFewerUptoCard : Claim7 := { stood := { row := silenceFewerUptoRow, standIns := [], harness := (true, "73cf19adbde0c0f6eece7d4bf68198f86895e45ea3aed79f1e6d5c0cf6b82d78"), looks := false }, kinds := [], alts := [], laidByText := true, laidKinds := [.data, .pinned, .pinned], laidTests := true, laidLooks := .later }
def SilenceFewerUptoCardSaid : Prop := Claim7.holds Tryz.pinned (.plain (OpenSpec.upto silenceFewerSpec)) silenceFewerUptoCard

/-- THE SECOND FORM's CARD OF 'customhouselaw15.SilenceDearer'. -/
def silenceDearerUptoCard : Claim7 := { stood := { row := silenceDearerUptoRow, standIns := [], harness := (true, "73cf19adbde0c0f6eece7d4bf68198f86895e45ea3aed79f1e6d5c0cf6b82d78"), looks := false }, kinds := [], alts := [], laidByText := true, laidKinds := [.data, .pinned, .pinned], laidTests := true, laidLooks := .later }
def SilenceDearerUptoCardSaid : Prop := Claim7.holds Tryz.pinned (.plain (OpenSpec.upto silenceDearerSpec)) silenceDearerUptoCard

/-- THE SECOND FORM's CARD OF 'customhouselaw15.SilenceTurned'. -/
def silenceTurnedUptoCard : Claim7 := { stood := { row := silenceTurnedUptoRow, standIns := [], harness := (true, "73cf19adbde0c0f6eece7d4bf68198f86895e45ea3aed79f1e6d5c0cf6b82d78"), looks := false }, kinds := [], alts := [], laidByText := true, laidKinds := [.data, .pinned, .pinned], laidTests := true, laidLooks := .later }
def SilenceTurnedUptoCardSaid : Prop := Claim7.holds Tryz.pinned (.plain (OpenSpec.upto silenceTurnedSpec)) silenceTurnedUptoCard

/-- THE SECOND FORM's CARD OF 'customhouselaw15.SilenceNothing'. -/
def silenceNothingUptoCard : Claim7 := { stood := { row := silenceNothingUptoRow, standIns := [], harness := (true, "73cf19adbde0c0f6eece7d4bf68198f86895e45ea3aed79f1e6d5c0cf6b82d78"), looks := false }, kinds := [], alts := [], laidByText := true, laidKinds := [.data, .pinned, .pinned], laidTests := true, laidLooks := .later }
def SilenceNothingUptoCardSaid : Prop := Claim7.holds Tryz.pinned (.plain (OpenSpec.upto silenceNothingSpec)) silenceNothingUptoCard

/-- THE SECOND FORM's CARD OF 'customhouselaw15.SilenceWords'. -/
def silenceWordsUptoCard : Claim7 := { stood := { row := silenceWordsUptoRow, standIns := [], harness := (true, "73cf19adbde0c0f6eece7d4bf68198f86895e45ea3aed79f1e6d5c0cf6b82d78"), looks := false }, kinds := [], alts := [], laidByText := true, laidKinds := [.data, .pinned, .pinned], laidTests := true, laidLooks := .later }
def SilenceWordsUptoCardSaid : Prop := Claim7.holds Tryz.pinned (.plain (OpenSpec.upto silenceWordsSpec)) silenceWordsUptoCard

/-- THE SECOND FORM's CARD OF 'customhouselaw15.SilenceSound'. -/
def silenceSoundUptoCard : Claim7 := { stood := { row := silenceSoundUptoRow, standIns := [], harness := (true, "73cf19adbde0c0f6eece7d4bf68198f86895e45ea3aed79f1e6d5c0cf6b82d78"), looks := false }, kinds := [], alts := [], laidByText := true, laidKinds := [.data, .pinned, .pinned], laidTests := true, laidLooks := .later }
def SilenceSoundUptoCardSaid : Prop := Claim7.holds Tryz.pinned (.plain (OpenSpec.upto silenceSoundSpec)) silenceSoundUptoCard
end Rows
end Go.Proofs.YtbioiclabmbedaaGreatDoor
