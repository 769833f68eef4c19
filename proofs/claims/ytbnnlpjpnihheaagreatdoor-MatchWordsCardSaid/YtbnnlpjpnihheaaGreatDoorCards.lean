/-
  DERIVED. GIVEN WITH THE SEED: THE CARDS: each row of YtbnnlpjpnihheaaGreatDoorRows.lean that lists a variable, with what it lists TIED to the program's text (the seventh form; the later family's looks); each row that meets fmt, with fmt's text TOLD by the authors' own Lean function (tested against real Go, not proved from fmt's source: count such statements apart). THE CARD IS WHAT COUNTS. Prove the row's statement (the work); the ties are given (YtbnnlpjpnihheaaGreatDoorTie.lean); close each card by the builder's one call (the guide's Derived/Test/ToyasCard.lean, 'card_holds'). Laid BY PROGRAM, IN A SANDBOX (cutbox-door.mjs). By AI agents, Wed Nov 11 2026. No macro, syntax, notation, axiom, sorry.
-/
import Derived.Test.YtbnnlpjpnihheaaGreatDoorRows
import GoSem.ClaimSeven
namespace Go.Proofs.YtbnnlpjpnihheaaGreatDoor
namespace Rows

/-- THE TIED CARD OF 'customhouselaw14.MatchMatchesReference'. -/
def matchMatchesReferenceCard : Claim7 := { stood := { row := matchMatchesReferenceRow, standIns := [], harness := (true, "05b2542287652eeb423a8e7d17e76f00972aedbba2589362a6d1ded39de77f17"), looks := false }, kinds := [], alts := [], laidByText := true, laidKinds := [.data, .pinned, .pinned], laidTests := true, laidLooks := .later }
def MatchMatchesReferenceCardSaid : Prop := Claim7.holds Tryz.pinned (.plain (OpenSpec.ofChange matchMatchesReferenceSpec)) matchMatchesReferenceCard

/-- THE TIED CARD OF 'customhouselaw14.MatchWords'. -/
def matchWordsCard : Claim7 := { stood := { row := matchWordsRow, standIns := [], harness := (true, "05b2542287652eeb423a8e7d17e76f00972aedbba2589362a6d1ded39de77f17"), looks := false }, kinds := [], alts := [], laidByText := true, laidKinds := [.data, .pinned, .pinned], laidTests := true, laidLooks := .later }
def MatchWordsCardSaid : Prop := Claim7.holds Tryz.pinned (.plain (OpenSpec.ofChange matchWordsSpec)) matchWordsCard

/-- THE TIED CARD OF 'customhouselaw14.MatchCheapest'. -/
def matchCheapestCard : Claim7 := { stood := { row := matchCheapestRow, standIns := [], harness := (true, "05b2542287652eeb423a8e7d17e76f00972aedbba2589362a6d1ded39de77f17"), looks := false }, kinds := [], alts := [], laidByText := true, laidKinds := [.data, .pinned, .pinned], laidTests := true, laidLooks := .later }
def MatchCheapestCardSaid : Prop := Claim7.holds Tryz.pinned (.plain (OpenSpec.ofChange matchCheapestSpec)) matchCheapestCard

/-- THE TIED CARD OF 'customhouselaw14.MatchSymmetric'. -/
def matchSymmetricCard : Claim7 := { stood := { row := matchSymmetricRow, standIns := [], harness := (true, "05b2542287652eeb423a8e7d17e76f00972aedbba2589362a6d1ded39de77f17"), looks := false }, kinds := [], alts := [], laidByText := true, laidKinds := [.data, .pinned, .pinned], laidTests := true, laidLooks := .later }
def MatchSymmetricCardSaid : Prop := Claim7.holds Tryz.pinned (.plain (OpenSpec.ofChange matchSymmetricSpec)) matchSymmetricCard

/-- THE TIED CARD OF 'customhouselaw14.MatchOrder'. -/
def matchOrderCard : Claim7 := { stood := { row := matchOrderRow, standIns := [], harness := (true, "05b2542287652eeb423a8e7d17e76f00972aedbba2589362a6d1ded39de77f17"), looks := false }, kinds := [], alts := [], laidByText := true, laidKinds := [.data, .pinned, .pinned], laidTests := true, laidLooks := .later }
def MatchOrderCardSaid : Prop := Claim7.holds Tryz.pinned (.plain (OpenSpec.ofChange matchOrderSpec)) matchOrderCard

/-- THE TIED CARD OF 'customhouselaw14.MatchDrops'. -/
def matchDropsCard : Claim7 := { stood := { row := matchDropsRow, standIns := [], harness := (true, "05b2542287652eeb423a8e7d17e76f00972aedbba2589362a6d1ded39de77f17"), looks := false }, kinds := [], alts := [], laidByText := true, laidKinds := [.data, .pinned, .pinned], laidTests := true, laidLooks := .later }
def MatchDropsCardSaid : Prop := Claim7.holds Tryz.pinned (.plain (OpenSpec.ofChange matchDropsSpec)) matchDropsCard

/-- THE TIED CARD OF 'customhouselaw14.MatchEnds'. -/
def matchEndsCard : Claim7 := { stood := { row := matchEndsRow, standIns := [], harness := (true, "05b2542287652eeb423a8e7d17e76f00972aedbba2589362a6d1ded39de77f17"), looks := false }, kinds := [], alts := [], laidByText := true, laidKinds := [.data, .pinned, .pinned], laidTests := true, laidLooks := .later }
def MatchEndsCardSaid : Prop := Claim7.holds Tryz.pinned (.plain (OpenSpec.ofChange matchEndsSpec)) matchEndsCard

/-- THE SECOND FORM's CARD OF 'customhouselaw14.MatchMatchesReference'. -/
def matchMatchesReferenceUptoCard : Claim7 := { stood := { row := matchMatchesReferenceUptoRow, standIns := [], harness := (true, "05b2542287652eeb423a8e7d17e76f00972aedbba2589362a6d1ded39de77f17"), looks := false }, kinds := [], alts := [], laidByText := true, laidKinds := [.data, .pinned, .pinned], laidTests := true, laidLooks := .later }
def MatchMatchesReferenceUptoCardSaid : Prop := Claim7.holds Tryz.pinned (.plain (OpenSpec.upto matchMatchesReferenceSpec)) matchMatchesReferenceUptoCard

/-- THE SECOND FORM's CARD OF 'customhouselaw14.MatchWords'. -/
def matchWordsUptoCard : Claim7 := { stood := { row := matchWordsUptoRow, standIns := [], harness := (true, "05b2542287652eeb423a8e7d17e76f00972aedbba2589362a6d1ded39de77f17"), looks := false }, kinds := [], alts := [], laidByText := true, laidKinds := [.data, .pinned, .pinned], laidTests := true, laidLooks := .later }
def MatchWordsUptoCardSaid : Prop := Claim7.holds Tryz.pinned (.plain (OpenSpec.upto matchWordsSpec)) matchWordsUptoCard

/-- THE SECOND FORM's CARD OF 'customhouselaw14.MatchCheapest'. -/
def matchCheapestUptoCard : Claim7 := { stood := { row := matchCheapestUptoRow, standIns := [], harness := (true, "05b2542287652eeb423a8e7d17e76f00972aedbba2589362a6d1ded39de77f17"), looks := false }, kinds := [], alts := [], laidByText := true, laidKinds := [.data, .pinned, .pinned], laidTests := true, laidLooks := .later }
def MatchCheapestUptoCardSaid : Prop := Claim7.holds Tryz.pinned (.plain (OpenSpec.upto matchCheapestSpec)) matchCheapestUptoCard

/-- THE SECOND FORM's CARD OF 'customhouselaw14.MatchSymmetric'. -/
def matchSymmetricUptoCard : Claim7 := { stood := { row := matchSymmetricUptoRow, standIns := [], harness := (true, "05b2542287652eeb423a8e7d17e76f00972aedbba2589362a6d1ded39de77f17"), looks := false }, kinds := [], alts := [], laidByText := true, laidKinds := [.data, .pinned, .pinned], laidTests := true, laidLooks := .later }
def MatchSymmetricUptoCardSaid : Prop := Claim7.holds Tryz.pinned (.plain (OpenSpec.upto matchSymmetricSpec)) matchSymmetricUptoCard

/-- THE SECOND FORM's CARD OF 'customhouselaw14.MatchOrder'. -/
def matchOrderUptoCard : Claim7 := { stood := { row := matchOrderUptoRow, standIns := [], harness := (true, "05b2542287652eeb423a8e7d17e76f00972aedbba2589362a6d1ded39de77f17"), looks := false }, kinds := [], alts := [], laidByText := true, laidKinds := [.data, .pinned, .pinned], laidTests := true, laidLooks := .later }
def MatchOrderUptoCardSaid : Prop := Claim7.holds Tryz.pinned (.plain (OpenSpec.upto matchOrderSpec)) matchOrderUptoCard

/-- THE SECOND FORM's CARD OF 'customhouselaw14.MatchDrops'. -/
def matchDropsUptoCard : Claim7 := { stood := { row := matchDropsUptoRow, standIns := [], harness := (true, "05b2542287652eeb423a8e7d17e76f00972aedbba2589362a6d1ded39de77f17"), looks := false }, kinds := [], alts := [], laidByText := true, laidKinds := [.data, .pinned, .pinned], laidTests := true, laidLooks := .later }
def MatchDropsUptoCardSaid : Prop := Claim7.holds Tryz.pinned (.plain (OpenSpec.upto matchDropsSpec)) matchDropsUptoCard

/-- THE SECOND FORM's CARD OF 'customhouselaw14.MatchEnds'. -/
def matchEndsUptoCard : Claim7 := { stood := { row := matchEndsUptoRow, standIns := [], harness := (true, "05b2542287652eeb423a8e7d17e76f00972aedbba2589362a6d1ded39de77f17"), looks := false }, kinds := [], alts := [], laidByText := true, laidKinds := [.data, .pinned, .pinned], laidTests := true, laidLooks := .later }
def MatchEndsUptoCardSaid : Prop := Claim7.holds Tryz.pinned (.plain (OpenSpec.upto matchEndsSpec)) matchEndsUptoCard
end Rows
end Go.Proofs.YtbnnlpjpnihheaaGreatDoor
