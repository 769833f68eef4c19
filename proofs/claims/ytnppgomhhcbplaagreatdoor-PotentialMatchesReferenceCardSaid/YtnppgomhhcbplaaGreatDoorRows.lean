/-
  NARROWER THAN 'FOR EVERY INPUT', by the rows' own cells (each row's printed sentence says how): PotentialMatchesReference: laid · PotentialLess: laid · PotentialFewer: laid · PotentialDearer: laid · PotentialTurned: laid · PotentialBounds: laid · PotentialComplete: laid · PotentialStates: laid · PotentialSound: laid.
  DERIVED. THE GIVEN ROWS OF THIS SEAT. 9 by the template 'for every input the law returns true; each argument reads behind the call as it read before'; 0 by the template 'total and deterministic' (their statements: YtnppgomhhcbplaaGreatDoorTotals.lean).
  GIVEN WITH THE SEED: the statements are not yours to turn. If you find one false, say at which input.
  Laid BY PROGRAM, IN A SANDBOX (cutbox-rows.mjs): the forced cells as the released guide's own fill.sh prints them over the translation 32d775bd8ba3c020… (all of the seat's roots in one cut). By AI agents, Wed Nov 11 2026. No macro, syntax, notation, axiom, sorry.
-/
import Derived.Test.YtnppgomhhcbplaaGreatDoorChecked
import GoSem.PinnedTables
import GoSem.Claim
import GoSem.ClaimJoined
import GoSem.ClaimMapViews
import Derived.JoinedTies
import Derived.KernelRfl
namespace Go.Proofs.YtnppgomhhcbplaaGreatDoor
/- THE CELL 'sum', in the pinned program and in every row, IS THE sha256 OF THE DUMP (.gsa) THAT YtnppgomhhcbplaaGreatDoorProg.lean LOADS. Nothing in Lean hashes anything: it is a label: what it is worth is what the hold of that sum in a sandbox is worth. -/
noncomputable def Tryz.pinned : Pinned := { name := "ytnppgomhhcbplaagreatdoor", sum := "32d775bd8ba3c020eb187bc530538857501a5a76e27d446ef68b1f1ce40d98db", checked := Tryz.checked }
namespace Rows
def none {H : Type} : Left H := { results := [], args := [] }

/- WHAT THE LISTED PACKAGE-LEVEL VARIABLES READ AS WHEN THE CALL BEGINS. Each datum BY PROGRAM (the guide's laid-datum.mjs) off the statement by which the dump's own 'gosem.cut.vars' lays the variable. In a bare row this is a premise. The card (YtnppgomhhcbplaaGreatDoorCards.lean) ties it to the program's text. -/
def laid_unicode_utf8_acceptRanges {H : Type} : DataW H := .agg [.agg [.lit (.int .u8 128), .lit (.int .u8 191)], .agg [.lit (.int .u8 160), .lit (.int .u8 191)], .agg [.lit (.int .u8 128), .lit (.int .u8 159)], .agg [.lit (.int .u8 144), .lit (.int .u8 191)], .agg [.lit (.int .u8 128), .lit (.int .u8 143)], .agg [.lit (.int .u8 0), .lit (.int .u8 0)], .agg [.lit (.int .u8 0), .lit (.int .u8 0)], .agg [.lit (.int .u8 0), .lit (.int .u8 0)], .agg [.lit (.int .u8 0), .lit (.int .u8 0)], .agg [.lit (.int .u8 0), .lit (.int .u8 0)], .agg [.lit (.int .u8 0), .lit (.int .u8 0)], .agg [.lit (.int .u8 0), .lit (.int .u8 0)], .agg [.lit (.int .u8 0), .lit (.int .u8 0)], .agg [.lit (.int .u8 0), .lit (.int .u8 0)], .agg [.lit (.int .u8 0), .lit (.int .u8 0)], .agg [.lit (.int .u8 0), .lit (.int .u8 0)]]
/-- One of Go's own tables, pinned by name: the form's constant. -/
def laid_unicode_CaseRanges : DataW Unit := Go.Pinned.caseRanges
/-- One of Go's own tables, pinned by name: the form's constant. -/
def laid_unicode_utf8_first : DataW Unit := Go.Pinned.utf8First

/-- 'customhouselaw12.PotentialMatchesReference': WHATEVER THE INPUT: true; the input reads as it did. -/
def potentialMatchesReferenceSpec : ChangeSpec := { name := "potentialMatchesReference", fn := fun _ => fun
  | [d1, d2, d3, d4, d5, d6, d7] => { results := [.lit (.bool true)], args := [d1, d2, d3, d4, d5, d6, d7] }
  | _ => none }
def potentialMatchesReferenceRow : OpenClaim := { program := "ytnppgomhhcbplaagreatdoor", sum := "32d775bd8ba3c020eb187bc530538857501a5a76e27d446ef68b1f1ce40d98db", func := "customhouse/customhouselaw12.PotentialMatchesReference", spec := "potentialMatchesReference", inPlace := ["internal/bytealg.IndexByteString", "internal/abi.NoEscape", "internal/bytealg.MakeNoZero", "internal/bytealg.IndexString", "internal/bytealg.abigen_runtime_cmpstring"], unfollowed := true, recurses := true, named := ["unicode/utf8.first", "unicode/utf8.acceptRanges", "unicode.CaseRanges", "internal/bytealg.MaxLen"], plainKeys := false, apart := false, laid := [("unicode/utf8.acceptRanges", laid_unicode_utf8_acceptRanges), ("unicode.CaseRanges", laid_unicode_CaseRanges), ("unicode/utf8.first", laid_unicode_utf8_first)] }
def PotentialMatchesReferenceSaid : Prop := potentialMatchesReferenceRow.holds Tryz.pinned (OpenSpec.ofChange potentialMatchesReferenceSpec)

/-- ITS FALSE NEIGHBOUR: 'it returns false'. Refute it at one input. -/
def potentialMatchesReferenceWrong : ChangeSpec := { name := "potentialMatchesReference", fn := fun _ => fun
  | [d1, d2, d3, d4, d5, d6, d7] => { results := [.lit (.bool false)], args := [d1, d2, d3, d4, d5, d6, d7] }
  | _ => none }
def PotentialMatchesReferenceWrongFalsely : Prop := potentialMatchesReferenceRow.holds Tryz.pinned (OpenSpec.ofChange potentialMatchesReferenceWrong)

/-- 'customhouselaw12.PotentialLess': WHATEVER THE INPUT: true; the input reads as it did. -/
def potentialLessSpec : ChangeSpec := { name := "potentialLess", fn := fun _ => fun
  | [d1, d2, d3, d4, d5, d6, d7] => { results := [.lit (.bool true)], args := [d1, d2, d3, d4, d5, d6, d7] }
  | _ => none }
def potentialLessRow : OpenClaim := { program := "ytnppgomhhcbplaagreatdoor", sum := "32d775bd8ba3c020eb187bc530538857501a5a76e27d446ef68b1f1ce40d98db", func := "customhouse/customhouselaw12.PotentialLess", spec := "potentialLess", inPlace := ["internal/bytealg.IndexByteString", "internal/abi.NoEscape", "internal/bytealg.MakeNoZero", "internal/bytealg.IndexString", "internal/bytealg.abigen_runtime_cmpstring"], unfollowed := true, recurses := true, named := ["unicode/utf8.first", "unicode/utf8.acceptRanges", "unicode.CaseRanges", "internal/bytealg.MaxLen"], plainKeys := false, apart := false, laid := [("unicode/utf8.acceptRanges", laid_unicode_utf8_acceptRanges), ("unicode.CaseRanges", laid_unicode_CaseRanges), ("unicode/utf8.first", laid_unicode_utf8_first)] }
def PotentialLessSaid : Prop := potentialLessRow.holds Tryz.pinned (OpenSpec.ofChange potentialLessSpec)

/-- ITS FALSE NEIGHBOUR: 'it returns false'. Refute it at one input. -/
def potentialLessWrong : ChangeSpec := { name := "potentialLess", fn := fun _ => fun
  | [d1, d2, d3, d4, d5, d6, d7] => { results := [.lit (.bool false)], args := [d1, d2, d3, d4, d5, d6, d7] }
  | _ => none }
def PotentialLessWrongFalsely : Prop := potentialLessRow.holds Tryz.pinned (OpenSpec.ofChange potentialLessWrong)

/-- 'customhouselaw12.PotentialFewer': WHATEVER THE INPUT: true; the input reads as it did. -/
def potentialFewerSpec : ChangeSpec := { name := "potentialFewer", fn := fun _ => fun
  | [d1, d2, d3, d4, d5, d6, d7, d8] => { results := [.lit (.bool true)], args := [d1, d2, d3, d4, d5, d6, d7, d8] }
  | _ => none }
def potentialFewerRow : OpenClaim := { program := "ytnppgomhhcbplaagreatdoor", sum := "32d775bd8ba3c020eb187bc530538857501a5a76e27d446ef68b1f1ce40d98db", func := "customhouse/customhouselaw12.PotentialFewer", spec := "potentialFewer", inPlace := ["internal/bytealg.IndexByteString", "internal/abi.NoEscape", "internal/bytealg.MakeNoZero", "internal/bytealg.IndexString", "internal/bytealg.abigen_runtime_cmpstring"], unfollowed := true, recurses := true, named := ["unicode/utf8.first", "unicode/utf8.acceptRanges", "unicode.CaseRanges", "internal/bytealg.MaxLen"], plainKeys := false, apart := false, laid := [("unicode/utf8.acceptRanges", laid_unicode_utf8_acceptRanges), ("unicode.CaseRanges", laid_unicode_CaseRanges), ("unicode/utf8.first", laid_unicode_utf8_first)] }
def PotentialFewerSaid : Prop := potentialFewerRow.holds Tryz.pinned (OpenSpec.ofChange potentialFewerSpec)

/-- ITS FALSE NEIGHBOUR: 'it returns false'. Refute it at one input. -/
def potentialFewerWrong : ChangeSpec := { name := "potentialFewer", fn := fun _ => fun
  | [d1, d2, d3, d4, d5, d6, d7, d8] => { results := [.lit (.bool false)], args := [d1, d2, d3, d4, d5, d6, d7, d8] }
  | _ => none }
def PotentialFewerWrongFalsely : Prop := potentialFewerRow.holds Tryz.pinned (OpenSpec.ofChange potentialFewerWrong)

/-- 'customhouselaw12.PotentialDearer': WHATEVER THE INPUT: true; the input reads as it did. -/
def potentialDearerSpec : ChangeSpec := { name := "potentialDearer", fn := fun _ => fun
  | [d1, d2, d3, d4, d5, d6, d7, d8, d9] => { results := [.lit (.bool true)], args := [d1, d2, d3, d4, d5, d6, d7, d8, d9] }
  | _ => none }
def potentialDearerRow : OpenClaim := { program := "ytnppgomhhcbplaagreatdoor", sum := "32d775bd8ba3c020eb187bc530538857501a5a76e27d446ef68b1f1ce40d98db", func := "customhouse/customhouselaw12.PotentialDearer", spec := "potentialDearer", inPlace := ["internal/bytealg.IndexByteString", "internal/abi.NoEscape", "internal/bytealg.MakeNoZero", "internal/bytealg.IndexString", "internal/bytealg.abigen_runtime_cmpstring"], unfollowed := true, recurses := true, named := ["unicode/utf8.first", "unicode/utf8.acceptRanges", "unicode.CaseRanges", "internal/bytealg.MaxLen"], plainKeys := false, apart := false, laid := [("unicode/utf8.acceptRanges", laid_unicode_utf8_acceptRanges), ("unicode.CaseRanges", laid_unicode_CaseRanges), ("unicode/utf8.first", laid_unicode_utf8_first)] }
def PotentialDearerSaid : Prop := potentialDearerRow.holds Tryz.pinned (OpenSpec.ofChange potentialDearerSpec)

/-- ITS FALSE NEIGHBOUR: 'it returns false'. Refute it at one input. -/
def potentialDearerWrong : ChangeSpec := { name := "potentialDearer", fn := fun _ => fun
  | [d1, d2, d3, d4, d5, d6, d7, d8, d9] => { results := [.lit (.bool false)], args := [d1, d2, d3, d4, d5, d6, d7, d8, d9] }
  | _ => none }
def PotentialDearerWrongFalsely : Prop := potentialDearerRow.holds Tryz.pinned (OpenSpec.ofChange potentialDearerWrong)

/-- 'customhouselaw12.PotentialTurned': WHATEVER THE INPUT: true; the input reads as it did. -/
def potentialTurnedSpec : ChangeSpec := { name := "potentialTurned", fn := fun _ => fun
  | [d1, d2, d3, d4, d5, d6] => { results := [.lit (.bool true)], args := [d1, d2, d3, d4, d5, d6] }
  | _ => none }
def potentialTurnedRow : OpenClaim := { program := "ytnppgomhhcbplaagreatdoor", sum := "32d775bd8ba3c020eb187bc530538857501a5a76e27d446ef68b1f1ce40d98db", func := "customhouse/customhouselaw12.PotentialTurned", spec := "potentialTurned", inPlace := ["internal/bytealg.IndexByteString", "internal/abi.NoEscape", "internal/bytealg.MakeNoZero", "internal/bytealg.IndexString", "internal/bytealg.abigen_runtime_cmpstring"], unfollowed := true, recurses := true, named := ["unicode/utf8.first", "unicode/utf8.acceptRanges", "unicode.CaseRanges", "internal/bytealg.MaxLen"], plainKeys := false, apart := false, laid := [("unicode/utf8.acceptRanges", laid_unicode_utf8_acceptRanges), ("unicode.CaseRanges", laid_unicode_CaseRanges), ("unicode/utf8.first", laid_unicode_utf8_first)] }
def PotentialTurnedSaid : Prop := potentialTurnedRow.holds Tryz.pinned (OpenSpec.ofChange potentialTurnedSpec)

/-- ITS FALSE NEIGHBOUR: 'it returns false'. Refute it at one input. -/
def potentialTurnedWrong : ChangeSpec := { name := "potentialTurned", fn := fun _ => fun
  | [d1, d2, d3, d4, d5, d6] => { results := [.lit (.bool false)], args := [d1, d2, d3, d4, d5, d6] }
  | _ => none }
def PotentialTurnedWrongFalsely : Prop := potentialTurnedRow.holds Tryz.pinned (OpenSpec.ofChange potentialTurnedWrong)

/-- 'customhouselaw12.PotentialBounds': WHATEVER THE INPUT: true; the input reads as it did. -/
def potentialBoundsSpec : ChangeSpec := { name := "potentialBounds", fn := fun _ => fun
  | [d1, d2, d3, d4, d5, d6, d7, d8] => { results := [.lit (.bool true)], args := [d1, d2, d3, d4, d5, d6, d7, d8] }
  | _ => none }
def potentialBoundsRow : OpenClaim := { program := "ytnppgomhhcbplaagreatdoor", sum := "32d775bd8ba3c020eb187bc530538857501a5a76e27d446ef68b1f1ce40d98db", func := "customhouse/customhouselaw12.PotentialBounds", spec := "potentialBounds", inPlace := ["internal/bytealg.IndexByteString", "internal/abi.NoEscape", "internal/bytealg.MakeNoZero", "internal/bytealg.IndexString", "internal/bytealg.abigen_runtime_cmpstring"], unfollowed := true, recurses := true, named := ["unicode/utf8.first", "unicode/utf8.acceptRanges", "unicode.CaseRanges", "internal/bytealg.MaxLen"], plainKeys := false, apart := false, laid := [("unicode/utf8.acceptRanges", laid_unicode_utf8_acceptRanges), ("unicode.CaseRanges", laid_unicode_CaseRanges), ("unicode/utf8.first", laid_unicode_utf8_first)] }
def PotentialBoundsSaid : Prop := potentialBoundsRow.holds Tryz.pinned (OpenSpec.ofChange potentialBoundsSpec)

/-- ITS FALSE NEIGHBOUR: 'it returns false'. Refute it at one input. -/
def potentialBoundsWrong : ChangeSpec := { name := "potentialBounds", fn := fun _ => fun
  | [d1, d2, d3, d4, d5, d6, d7, d8] => { results := [.lit (.bool false)], args := [d1, d2, d3, d4, d5, d6, d7, d8] }
  | _ => none }
def PotentialBoundsWrongFalsely : Prop := potentialBoundsRow.holds Tryz.pinned (OpenSpec.ofChange potentialBoundsWrong)

/-- 'customhouselaw12.PotentialComplete': WHATEVER THE INPUT: true; the input reads as it did. -/
def potentialCompleteSpec : ChangeSpec := { name := "potentialComplete", fn := fun _ => fun
  | [d1, d2, d3, d4, d5, d6] => { results := [.lit (.bool true)], args := [d1, d2, d3, d4, d5, d6] }
  | _ => none }
def potentialCompleteRow : OpenClaim := { program := "ytnppgomhhcbplaagreatdoor", sum := "32d775bd8ba3c020eb187bc530538857501a5a76e27d446ef68b1f1ce40d98db", func := "customhouse/customhouselaw12.PotentialComplete", spec := "potentialComplete", inPlace := ["internal/bytealg.IndexByteString", "internal/abi.NoEscape", "internal/bytealg.MakeNoZero", "internal/bytealg.IndexString", "internal/bytealg.abigen_runtime_cmpstring"], unfollowed := true, recurses := true, named := ["unicode/utf8.first", "unicode/utf8.acceptRanges", "unicode.CaseRanges", "internal/bytealg.MaxLen"], plainKeys := false, apart := false, laid := [("unicode/utf8.acceptRanges", laid_unicode_utf8_acceptRanges), ("unicode.CaseRanges", laid_unicode_CaseRanges), ("unicode/utf8.first", laid_unicode_utf8_first)] }
def PotentialCompleteSaid : Prop := potentialCompleteRow.holds Tryz.pinned (OpenSpec.ofChange potentialCompleteSpec)

/-- ITS FALSE NEIGHBOUR: 'it returns false'. Refute it at one input. -/
def potentialCompleteWrong : ChangeSpec := { name := "potentialComplete", fn := fun _ => fun
  | [d1, d2, d3, d4, d5, d6] => { results := [.lit (.bool false)], args := [d1, d2, d3, d4, d5, d6] }
  | _ => none }
def PotentialCompleteWrongFalsely : Prop := potentialCompleteRow.holds Tryz.pinned (OpenSpec.ofChange potentialCompleteWrong)

/-- 'customhouselaw12.PotentialStates': WHATEVER THE INPUT: true; the input reads as it did. -/
def potentialStatesSpec : ChangeSpec := { name := "potentialStates", fn := fun _ => fun
  | [d1, d2, d3, d4, d5, d6, d7] => { results := [.lit (.bool true)], args := [d1, d2, d3, d4, d5, d6, d7] }
  | _ => none }
def potentialStatesRow : OpenClaim := { program := "ytnppgomhhcbplaagreatdoor", sum := "32d775bd8ba3c020eb187bc530538857501a5a76e27d446ef68b1f1ce40d98db", func := "customhouse/customhouselaw12.PotentialStates", spec := "potentialStates", inPlace := ["internal/bytealg.IndexByteString", "internal/abi.NoEscape", "internal/bytealg.MakeNoZero", "internal/bytealg.IndexString", "internal/bytealg.abigen_runtime_cmpstring"], unfollowed := true, recurses := true, named := ["unicode/utf8.first", "unicode/utf8.acceptRanges", "unicode.CaseRanges", "internal/bytealg.MaxLen"], plainKeys := false, apart := false, laid := [("unicode/utf8.acceptRanges", laid_unicode_utf8_acceptRanges), ("unicode.CaseRanges", laid_unicode_CaseRanges), ("unicode/utf8.first", laid_unicode_utf8_first)] }
def PotentialStatesSaid : Prop := potentialStatesRow.holds Tryz.pinned (OpenSpec.ofChange potentialStatesSpec)

/-- ITS FALSE NEIGHBOUR: 'it returns false'. Refute it at one input. -/
def potentialStatesWrong : ChangeSpec := { name := "potentialStates", fn := fun _ => fun
  | [d1, d2, d3, d4, d5, d6, d7] => { results := [.lit (.bool false)], args := [d1, d2, d3, d4, d5, d6, d7] }
  | _ => none }
def PotentialStatesWrongFalsely : Prop := potentialStatesRow.holds Tryz.pinned (OpenSpec.ofChange potentialStatesWrong)

/-- 'customhouselaw12.PotentialSound': WHATEVER THE INPUT: true; the input reads as it did. -/
def potentialSoundSpec : ChangeSpec := { name := "potentialSound", fn := fun _ => fun
  | [d1, d2, d3, d4, d5, d6, d7, d8] => { results := [.lit (.bool true)], args := [d1, d2, d3, d4, d5, d6, d7, d8] }
  | _ => none }
def potentialSoundRow : OpenClaim := { program := "ytnppgomhhcbplaagreatdoor", sum := "32d775bd8ba3c020eb187bc530538857501a5a76e27d446ef68b1f1ce40d98db", func := "customhouse/customhouselaw12.PotentialSound", spec := "potentialSound", inPlace := ["internal/bytealg.IndexByteString", "internal/abi.NoEscape", "internal/bytealg.MakeNoZero", "internal/bytealg.IndexString", "internal/bytealg.abigen_runtime_cmpstring"], unfollowed := true, recurses := true, named := ["unicode/utf8.first", "unicode/utf8.acceptRanges", "unicode.CaseRanges", "internal/bytealg.MaxLen"], plainKeys := false, apart := false, laid := [("unicode/utf8.acceptRanges", laid_unicode_utf8_acceptRanges), ("unicode.CaseRanges", laid_unicode_CaseRanges), ("unicode/utf8.first", laid_unicode_utf8_first)] }
def PotentialSoundSaid : Prop := potentialSoundRow.holds Tryz.pinned (OpenSpec.ofChange potentialSoundSpec)

/-- ITS FALSE NEIGHBOUR: 'it returns false'. Refute it at one input. -/
def potentialSoundWrong : ChangeSpec := { name := "potentialSound", fn := fun _ => fun
  | [d1, d2, d3, d4, d5, d6, d7, d8] => { results := [.lit (.bool false)], args := [d1, d2, d3, d4, d5, d6, d7, d8] }
  | _ => none }
def PotentialSoundWrongFalsely : Prop := potentialSoundRow.holds Tryz.pinned (OpenSpec.ofChange potentialSoundWrong)

/- THE SECOND FORM. 'bulk': how many values and letters a reading holds, each counted each time it is reached (what is shared counts as often as it is met; a slice's spare places count too). A statement '..UptoSaid' is the law's where the arguments, and the package variables that the reading takes, are together of bulk at most 1048576: NARROWER than '..Said'. Prove '..Said' where nothing that the law and all that it calls make is longer than what came in: it says more and counts as full. Else prove '..UptoSaid'. A law counts once. -/
mutual
def uptoBulk {H : Type} : DataW H → Nat
  | .lit (.string bytes) => bytes.length + 1
  | .lit _ => 1
  | .nil => 1
  | .ptr d => uptoBulk d + 1
  | .slice elems spare => uptoBulkAll elems + uptoBulkAll spare + 1
  | .agg parts => uptoBulkAll parts + 1
  | .iface _ d => uptoBulk d + 1
  | .map entries => uptoBulkEntries entries + 1
  | .held _ => 1
def uptoBulkAll {H : Type} : List (DataW H) → Nat
  | [] => 0
  | d :: r => uptoBulk d + uptoBulkAll r
def uptoBulkEntries {H : Type} : List (Lit × DataW H) → Nat
  | [] => 0
  | x :: r => uptoBulkEntry x + uptoBulkEntries r
def uptoBulkEntry {H : Type} : Lit × DataW H → Nat
  | (.string bytes, d) => bytes.length + uptoBulk d + 1
  | (_, d) => uptoBulk d + 1
 end
def uptoSmall : (H : Type) → List (DataW H) → Bool := fun _ ds => decide (uptoBulkAll ds ≤ 1048576)
def OpenSpec.upto (s : _root_.Go.ChangeSpec) : _root_.Go.OpenSpec := { _root_.Go.OpenSpec.ofChange s with cond := some uptoSmall }

/-- 'customhouselaw12.PotentialMatchesReference', WHERE WHAT IT READS IS OF BULK AT MOST 1048576: true; the input reads as it did. -/
def potentialMatchesReferenceUptoRow : OpenClaim := { program := "ytnppgomhhcbplaagreatdoor", sum := "32d775bd8ba3c020eb187bc530538857501a5a76e27d446ef68b1f1ce40d98db", func := "customhouse/customhouselaw12.PotentialMatchesReference", spec := "potentialMatchesReference", inPlace := ["internal/bytealg.IndexByteString", "internal/abi.NoEscape", "internal/bytealg.MakeNoZero", "internal/bytealg.IndexString", "internal/bytealg.abigen_runtime_cmpstring"], unfollowed := true, recurses := true, named := ["unicode/utf8.first", "unicode/utf8.acceptRanges", "unicode.CaseRanges", "internal/bytealg.MaxLen"], plainKeys := false, apart := false, laid := [("unicode/utf8.acceptRanges", laid_unicode_utf8_acceptRanges), ("unicode.CaseRanges", laid_unicode_CaseRanges), ("unicode/utf8.first", laid_unicode_utf8_first)], narrowed := true }
def PotentialMatchesReferenceUptoSaid : Prop := potentialMatchesReferenceUptoRow.holds Tryz.pinned (OpenSpec.upto potentialMatchesReferenceSpec)

/-- 'customhouselaw12.PotentialLess', WHERE WHAT IT READS IS OF BULK AT MOST 1048576: true; the input reads as it did. -/
def potentialLessUptoRow : OpenClaim := { program := "ytnppgomhhcbplaagreatdoor", sum := "32d775bd8ba3c020eb187bc530538857501a5a76e27d446ef68b1f1ce40d98db", func := "customhouse/customhouselaw12.PotentialLess", spec := "potentialLess", inPlace := ["internal/bytealg.IndexByteString", "internal/abi.NoEscape", "internal/bytealg.MakeNoZero", "internal/bytealg.IndexString", "internal/bytealg.abigen_runtime_cmpstring"], unfollowed := true, recurses := true, named := ["unicode/utf8.first", "unicode/utf8.acceptRanges", "unicode.CaseRanges", "internal/bytealg.MaxLen"], plainKeys := false, apart := false, laid := [("unicode/utf8.acceptRanges", laid_unicode_utf8_acceptRanges), ("unicode.CaseRanges", laid_unicode_CaseRanges), ("unicode/utf8.first", laid_unicode_utf8_first)], narrowed := true }
def PotentialLessUptoSaid : Prop := potentialLessUptoRow.holds Tryz.pinned (OpenSpec.upto potentialLessSpec)

/-- 'customhouselaw12.PotentialFewer', WHERE WHAT IT READS IS OF BULK AT MOST 1048576: true; the input reads as it did. -/
def potentialFewerUptoRow : OpenClaim := { program := "ytnppgomhhcbplaagreatdoor", sum := "32d775bd8ba3c020eb187bc530538857501a5a76e27d446ef68b1f1ce40d98db", func := "customhouse/customhouselaw12.PotentialFewer", spec := "potentialFewer", inPlace := ["internal/bytealg.IndexByteString", "internal/abi.NoEscape", "internal/bytealg.MakeNoZero", "internal/bytealg.IndexString", "internal/bytealg.abigen_runtime_cmpstring"], unfollowed := true, recurses := true, named := ["unicode/utf8.first", "unicode/utf8.acceptRanges", "unicode.CaseRanges", "internal/bytealg.MaxLen"], plainKeys := false, apart := false, laid := [("unicode/utf8.acceptRanges", laid_unicode_utf8_acceptRanges), ("unicode.CaseRanges", laid_unicode_CaseRanges), ("unicode/utf8.first", laid_unicode_utf8_first)], narrowed := true }
def PotentialFewerUptoSaid : Prop := potentialFewerUptoRow.holds Tryz.pinned (OpenSpec.upto potentialFewerSpec)

/-- 'customhouselaw12.PotentialDearer', WHERE WHAT IT READS IS OF BULK AT MOST 1048576: true; the input reads as it did. -/
def potentialDearerUptoRow : OpenClaim := { program := "ytnppgomhhcbplaagreatdoor", sum := "32d775bd8ba3c020eb187bc530538857501a5a76e27d446ef68b1f1ce40d98db", func := "customhouse/customhouselaw12.PotentialDearer", spec := "potentialDearer", inPlace := ["internal/bytealg.IndexByteString", "internal/abi.NoEscape", "internal/bytealg.MakeNoZero", "internal/bytealg.IndexString", "internal/bytealg.abigen_runtime_cmpstring"], unfollowed := true, recurses := true, named := ["unicode/utf8.first", "unicode/utf8.acceptRanges", "unicode.CaseRanges", "internal/bytealg.MaxLen"], plainKeys := false, apart := false, laid := [("unicode/utf8.acceptRanges", laid_unicode_utf8_acceptRanges), ("unicode.CaseRanges", laid_unicode_CaseRanges), ("unicode/utf8.first", laid_unicode_utf8_first)], narrowed := true }
def PotentialDearerUptoSaid : Prop := potentialDearerUptoRow.holds Tryz.pinned (OpenSpec.upto potentialDearerSpec)

/-- 'customhouselaw12.PotentialTurned', WHERE WHAT IT READS IS OF BULK AT MOST 1048576: true; the input reads as it did. -/
def potentialTurnedUptoRow : OpenClaim := { program := "ytnppgomhhcbplaagreatdoor", sum := "32d775bd8ba3c020eb187bc530538857501a5a76e27d446ef68b1f1ce40d98db", func := "customhouse/customhouselaw12.PotentialTurned", spec := "potentialTurned", inPlace := ["internal/bytealg.IndexByteString", "internal/abi.NoEscape", "internal/bytealg.MakeNoZero", "internal/bytealg.IndexString", "internal/bytealg.abigen_runtime_cmpstring"], unfollowed := true, recurses := true, named := ["unicode/utf8.first", "unicode/utf8.acceptRanges", "unicode.CaseRanges", "internal/bytealg.MaxLen"], plainKeys := false, apart := false, laid := [("unicode/utf8.acceptRanges", laid_unicode_utf8_acceptRanges), ("unicode.CaseRanges", laid_unicode_CaseRanges), ("unicode/utf8.first", laid_unicode_utf8_first)], narrowed := true }
def PotentialTurnedUptoSaid : Prop := potentialTurnedUptoRow.holds Tryz.pinned (OpenSpec.upto potentialTurnedSpec)

/-- 'customhouselaw12.PotentialBounds', WHERE WHAT IT READS IS OF BULK AT MOST 1048576: true; the input reads as it did. -/
def potentialBoundsUptoRow : OpenClaim := { program := "ytnppgomhhcbplaagreatdoor", sum := "32d775bd8ba3c020eb187bc530538857501a5a76e27d446ef68b1f1ce40d98db", func := "customhouse/customhouselaw12.PotentialBounds", spec := "potentialBounds", inPlace := ["internal/bytealg.IndexByteString", "internal/abi.NoEscape", "internal/bytealg.MakeNoZero", "internal/bytealg.IndexString", "internal/bytealg.abigen_runtime_cmpstring"], unfollowed := true, recurses := true, named := ["unicode/utf8.first", "unicode/utf8.acceptRanges", "unicode.CaseRanges", "internal/bytealg.MaxLen"], plainKeys := false, apart := false, laid := [("unicode/utf8.acceptRanges", laid_unicode_utf8_acceptRanges), ("unicode.CaseRanges", laid_unicode_CaseRanges), ("unicode/utf8.first", laid_unicode_utf8_first)], narrowed := true }
def PotentialBoundsUptoSaid : Prop := potentialBoundsUptoRow.holds Tryz.pinned (OpenSpec.upto potentialBoundsSpec)

/-- 'customhouselaw12.PotentialComplete', WHERE WHAT IT READS IS OF BULK AT MOST 1048576: true; the input reads as it did. -/
def potentialCompleteUptoRow : OpenClaim := { program := "ytnppgomhhcbplaagreatdoor", sum := "32d775bd8ba3c020eb187bc530538857501a5a76e27d446ef68b1f1ce40d98db", func := "customhouse/customhouselaw12.PotentialComplete", spec := "potentialComplete", inPlace := ["internal/bytealg.IndexByteString", "internal/abi.NoEscape", "internal/bytealg.MakeNoZero", "internal/bytealg.IndexString", "internal/bytealg.abigen_runtime_cmpstring"], unfollowed := true, recurses := true, named := ["unicode/utf8.first", "unicode/utf8.acceptRanges", "unicode.CaseRanges", "internal/bytealg.MaxLen"], plainKeys := false, apart := false, laid := [("unicode/utf8.acceptRanges", laid_unicode_utf8_acceptRanges), ("unicode.CaseRanges", laid_unicode_CaseRanges), ("unicode/utf8.first", laid_unicode_utf8_first)], narrowed := true }
def PotentialCompleteUptoSaid : Prop := potentialCompleteUptoRow.holds Tryz.pinned (OpenSpec.upto potentialCompleteSpec)

/-- 'customhouselaw12.PotentialStates', WHERE WHAT IT READS IS OF BULK AT MOST 1048576: true; the input reads as it did. -/
def potentialStatesUptoRow : OpenClaim := { program := "ytnppgomhhcbplaagreatdoor", sum := "32d775bd8ba3c020eb187bc530538857501a5a76e27d446ef68b1f1ce40d98db", func := "customhouse/customhouselaw12.PotentialStates", spec := "potentialStates", inPlace := ["internal/bytealg.IndexByteString", "internal/abi.NoEscape", "internal/bytealg.MakeNoZero", "internal/bytealg.IndexString", "internal/bytealg.abigen_runtime_cmpstring"], unfollowed := true, recurses := true, named := ["unicode/utf8.first", "unicode/utf8.acceptRanges", "unicode.CaseRanges", "internal/bytealg.MaxLen"], plainKeys := false, apart := false, laid := [("unicode/utf8.acceptRanges", laid_unicode_utf8_acceptRanges), ("unicode.CaseRanges", laid_unicode_CaseRanges), ("unicode/utf8.first", laid_unicode_utf8_first)], narrowed := true }
def PotentialStatesUptoSaid : Prop := potentialStatesUptoRow.holds Tryz.pinned (OpenSpec.upto potentialStatesSpec)

/-- 'customhouselaw12.PotentialSound', WHERE WHAT IT READS IS OF BULK AT MOST 1048576: true; the input reads as it did. -/
def potentialSoundUptoRow : OpenClaim := { program := "ytnppgomhhcbplaagreatdoor", sum := "32d775bd8ba3c020eb187bc530538857501a5a76e27d446ef68b1f1ce40d98db", func := "customhouse/customhouselaw12.PotentialSound", spec := "potentialSound", inPlace := ["internal/bytealg.IndexByteString", "internal/abi.NoEscape", "internal/bytealg.MakeNoZero", "internal/bytealg.IndexString", "internal/bytealg.abigen_runtime_cmpstring"], unfollowed := true, recurses := true, named := ["unicode/utf8.first", "unicode/utf8.acceptRanges", "unicode.CaseRanges", "internal/bytealg.MaxLen"], plainKeys := false, apart := false, laid := [("unicode/utf8.acceptRanges", laid_unicode_utf8_acceptRanges), ("unicode.CaseRanges", laid_unicode_CaseRanges), ("unicode/utf8.first", laid_unicode_utf8_first)], narrowed := true }
def PotentialSoundUptoSaid : Prop := potentialSoundUptoRow.holds Tryz.pinned (OpenSpec.upto potentialSoundSpec)

end Rows
end Go.Proofs.YtnppgomhhcbplaaGreatDoor
