/-
  DERIVED. GIVEN WITH THE SEED: THE CARDS: each row of YtcgmikpmbomliaaDoorRows.lean that lists a variable, with what it lists TIED to the program's text (the seventh form; the later family's looks); each row that meets fmt, with fmt's text TOLD by the authors' own Lean function (tested against real Go, not proved from fmt's source: count such statements apart). THE CARD IS WHAT COUNTS. Prove the row's statement (the work); the ties are given (YtcgmikpmbomliaaDoorTie.lean); close each card by the builder's one call (the guide's Derived/Test/ToyasCard.lean, 'card_holds'). Laid BY PROGRAM, IN A SANDBOX (cutbox-door.mjs). By AI agents, Wed Nov 11 2026. No macro, syntax, notation, axiom, sorry.
-/
import Derived.Test.YtcgmikpmbomliaaDoorRows
import GoSem.ClaimSeven
namespace Go.Proofs.YtcgmikpmbomliaaDoor
namespace Rows

/-- THE TIED CARD OF 'customhouselaw09.ScriptMatchesReference'. -/
def scriptMatchesReferenceCard : Claim7 := { stood := { row := scriptMatchesReferenceRow, standIns := [], harness := (true, "4423505d8080e05605328cb8eaca14f9f36463d1e33a1926039f471a30687c4a"), looks := false }, kinds := [], alts := [], laidByText := true, laidKinds := [.data, .pinned, .pinned], laidTests := true, laidLooks := .later }
def ScriptMatchesReferenceCardSaid : Prop := Claim7.holds Tryd.pinned (.plain (OpenSpec.ofChange scriptMatchesReferenceSpec)) scriptMatchesReferenceCard

/-- THE TIED CARD OF 'customhouselaw09.ScriptLetters'. -/
def scriptLettersCard : Claim7 := { stood := { row := scriptLettersRow, standIns := [], harness := (true, "4423505d8080e05605328cb8eaca14f9f36463d1e33a1926039f471a30687c4a"), looks := false }, kinds := [], alts := [], laidByText := true, laidKinds := [.data, .pinned, .pinned], laidTests := true, laidLooks := .later }
def ScriptLettersCardSaid : Prop := Claim7.holds Tryd.pinned (.plain (OpenSpec.ofChange scriptLettersSpec)) scriptLettersCard

/-- THE TIED CARD OF 'customhouselaw09.ScriptJoins'. -/
def scriptJoinsCard : Claim7 := { stood := { row := scriptJoinsRow, standIns := [], harness := (true, "4423505d8080e05605328cb8eaca14f9f36463d1e33a1926039f471a30687c4a"), looks := false }, kinds := [], alts := [], laidByText := true, laidKinds := [.data, .pinned, .pinned], laidTests := true, laidLooks := .later }
def ScriptJoinsCardSaid : Prop := Claim7.holds Tryd.pinned (.plain (OpenSpec.ofChange scriptJoinsSpec)) scriptJoinsCard

/-- THE TIED CARD OF 'customhouselaw09.ScriptFolds'. -/
def scriptFoldsCard : Claim7 := { stood := { row := scriptFoldsRow, standIns := [], harness := (true, "4423505d8080e05605328cb8eaca14f9f36463d1e33a1926039f471a30687c4a"), looks := false }, kinds := [], alts := [], laidByText := true, laidKinds := [.data, .pinned, .pinned], laidTests := true, laidLooks := .later }
def ScriptFoldsCardSaid : Prop := Claim7.holds Tryd.pinned (.plain (OpenSpec.ofChange scriptFoldsSpec)) scriptFoldsCard

/-- THE TIED CARD OF 'customhouselaw09.ScriptTexts'. -/
def scriptTextsCard : Claim7 := { stood := { row := scriptTextsRow, standIns := [], harness := (true, "4423505d8080e05605328cb8eaca14f9f36463d1e33a1926039f471a30687c4a"), looks := false }, kinds := [], alts := [], laidByText := true, laidKinds := [.data, .pinned, .pinned], laidTests := true, laidLooks := .later }
def ScriptTextsCardSaid : Prop := Claim7.holds Tryd.pinned (.plain (OpenSpec.ofChange scriptTextsSpec)) scriptTextsCard

/-- THE TIED CARD OF 'customhouselaw09.ScriptBlanks'. -/
def scriptBlanksCard : Claim7 := { stood := { row := scriptBlanksRow, standIns := [], harness := (true, "4423505d8080e05605328cb8eaca14f9f36463d1e33a1926039f471a30687c4a"), looks := false }, kinds := [], alts := [], laidByText := true, laidKinds := [.data, .pinned, .pinned], laidTests := true, laidLooks := .later }
def ScriptBlanksCardSaid : Prop := Claim7.holds Tryd.pinned (.plain (OpenSpec.ofChange scriptBlanksSpec)) scriptBlanksCard

/-- THE TIED CARD OF 'customhouselaw09.ScriptErrors'. -/
def scriptErrorsCard : Claim7 := { stood := { row := scriptErrorsRow, standIns := [], harness := (true, "4423505d8080e05605328cb8eaca14f9f36463d1e33a1926039f471a30687c4a"), looks := false }, kinds := [], alts := [], laidByText := true, laidKinds := [.data, .pinned, .pinned], laidTests := true, laidLooks := .later }
def ScriptErrorsCardSaid : Prop := Claim7.holds Tryd.pinned (.plain (OpenSpec.ofChange scriptErrorsSpec)) scriptErrorsCard

/-- THE TIED CARD OF 'customhouselaw09.ScriptCommon'. -/
def scriptCommonCard : Claim7 := { stood := { row := scriptCommonRow, standIns := [], harness := (true, "4423505d8080e05605328cb8eaca14f9f36463d1e33a1926039f471a30687c4a"), looks := false }, kinds := [], alts := [], laidByText := true, laidKinds := [.data, .pinned, .pinned], laidTests := true, laidLooks := .later }
def ScriptCommonCardSaid : Prop := Claim7.holds Tryd.pinned (.plain (OpenSpec.ofChange scriptCommonSpec)) scriptCommonCard

/-- THE SECOND FORM's CARD OF 'customhouselaw09.ScriptMatchesReference'. -/
def scriptMatchesReferenceUptoCard : Claim7 := { stood := { row := scriptMatchesReferenceUptoRow, standIns := [], harness := (true, "4423505d8080e05605328cb8eaca14f9f36463d1e33a1926039f471a30687c4a"), looks := false }, kinds := [], alts := [], laidByText := true, laidKinds := [.data, .pinned, .pinned], laidTests := true, laidLooks := .later }
def ScriptMatchesReferenceUptoCardSaid : Prop := Claim7.holds Tryd.pinned (.plain (OpenSpec.upto scriptMatchesReferenceSpec)) scriptMatchesReferenceUptoCard

/-- THE SECOND FORM's CARD OF 'customhouselaw09.ScriptLetters'. -/
def scriptLettersUptoCard : Claim7 := { stood := { row := scriptLettersUptoRow, standIns := [], harness := (true, "4423505d8080e05605328cb8eaca14f9f36463d1e33a1926039f471a30687c4a"), looks := false }, kinds := [], alts := [], laidByText := true, laidKinds := [.data, .pinned, .pinned], laidTests := true, laidLooks := .later }
def ScriptLettersUptoCardSaid : Prop := Claim7.holds Tryd.pinned (.plain (OpenSpec.upto scriptLettersSpec)) scriptLettersUptoCard

/-- THE SECOND FORM's CARD OF 'customhouselaw09.ScriptJoins'. -/
def scriptJoinsUptoCard : Claim7 := { stood := { row := scriptJoinsUptoRow, standIns := [], harness := (true, "4423505d8080e05605328cb8eaca14f9f36463d1e33a1926039f471a30687c4a"), looks := false }, kinds := [], alts := [], laidByText := true, laidKinds := [.data, .pinned, .pinned], laidTests := true, laidLooks := .later }
def ScriptJoinsUptoCardSaid : Prop := Claim7.holds Tryd.pinned (.plain (OpenSpec.upto scriptJoinsSpec)) scriptJoinsUptoCard

/-- THE SECOND FORM's CARD OF 'customhouselaw09.ScriptFolds'. -/
def scriptFoldsUptoCard : Claim7 := { stood := { row := scriptFoldsUptoRow, standIns := [], harness := (true, "4423505d8080e05605328cb8eaca14f9f36463d1e33a1926039f471a30687c4a"), looks := false }, kinds := [], alts := [], laidByText := true, laidKinds := [.data, .pinned, .pinned], laidTests := true, laidLooks := .later }
def ScriptFoldsUptoCardSaid : Prop := Claim7.holds Tryd.pinned (.plain (OpenSpec.upto scriptFoldsSpec)) scriptFoldsUptoCard

/-- THE SECOND FORM's CARD OF 'customhouselaw09.ScriptTexts'. -/
def scriptTextsUptoCard : Claim7 := { stood := { row := scriptTextsUptoRow, standIns := [], harness := (true, "4423505d8080e05605328cb8eaca14f9f36463d1e33a1926039f471a30687c4a"), looks := false }, kinds := [], alts := [], laidByText := true, laidKinds := [.data, .pinned, .pinned], laidTests := true, laidLooks := .later }
def ScriptTextsUptoCardSaid : Prop := Claim7.holds Tryd.pinned (.plain (OpenSpec.upto scriptTextsSpec)) scriptTextsUptoCard

/-- THE SECOND FORM's CARD OF 'customhouselaw09.ScriptBlanks'. -/
def scriptBlanksUptoCard : Claim7 := { stood := { row := scriptBlanksUptoRow, standIns := [], harness := (true, "4423505d8080e05605328cb8eaca14f9f36463d1e33a1926039f471a30687c4a"), looks := false }, kinds := [], alts := [], laidByText := true, laidKinds := [.data, .pinned, .pinned], laidTests := true, laidLooks := .later }
def ScriptBlanksUptoCardSaid : Prop := Claim7.holds Tryd.pinned (.plain (OpenSpec.upto scriptBlanksSpec)) scriptBlanksUptoCard

/-- THE SECOND FORM's CARD OF 'customhouselaw09.ScriptErrors'. -/
def scriptErrorsUptoCard : Claim7 := { stood := { row := scriptErrorsUptoRow, standIns := [], harness := (true, "4423505d8080e05605328cb8eaca14f9f36463d1e33a1926039f471a30687c4a"), looks := false }, kinds := [], alts := [], laidByText := true, laidKinds := [.data, .pinned, .pinned], laidTests := true, laidLooks := .later }
def ScriptErrorsUptoCardSaid : Prop := Claim7.holds Tryd.pinned (.plain (OpenSpec.upto scriptErrorsSpec)) scriptErrorsUptoCard

/-- THE SECOND FORM's CARD OF 'customhouselaw09.ScriptCommon'. -/
def scriptCommonUptoCard : Claim7 := { stood := { row := scriptCommonUptoRow, standIns := [], harness := (true, "4423505d8080e05605328cb8eaca14f9f36463d1e33a1926039f471a30687c4a"), looks := false }, kinds := [], alts := [], laidByText := true, laidKinds := [.data, .pinned, .pinned], laidTests := true, laidLooks := .later }
def ScriptCommonUptoCardSaid : Prop := Claim7.holds Tryd.pinned (.plain (OpenSpec.upto scriptCommonSpec)) scriptCommonUptoCard
end Rows
end Go.Proofs.YtcgmikpmbomliaaDoor
