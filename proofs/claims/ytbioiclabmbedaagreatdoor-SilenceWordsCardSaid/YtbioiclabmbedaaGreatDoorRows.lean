/-
  NARROWER THAN 'FOR EVERY INPUT', by the rows' own cells (each row's printed sentence says how): SilenceComplete: laid · SilenceFewer: laid · SilenceDearer: laid · SilenceTurned: laid · SilenceNothing: laid · SilenceWords: laid · SilenceSound: laid.
  DERIVED. THE GIVEN ROWS OF THIS SEAT. 7 by the template 'for every input the law returns true; each argument reads behind the call as it read before'; 0 by the template 'total and deterministic' (their statements: YtbioiclabmbedaaGreatDoorTotals.lean).
  GIVEN WITH THE SEED: the statements are not yours to turn. If you find one false, say at which input.
  Laid BY PROGRAM, IN A SANDBOX (cutbox-rows.mjs): the forced cells as the released guide's own fill.sh prints them over the translation 785edff6f47b85de… (all of the seat's roots in one cut). By AI agents, Wed Nov 11 2026. No macro, syntax, notation, axiom, sorry.
-/
import Derived.Test.YtbioiclabmbedaaGreatDoorChecked
import GoSem.PinnedTables
import GoSem.Claim
import GoSem.ClaimJoined
import GoSem.ClaimMapViews
import Derived.JoinedTies
import Derived.KernelRfl
namespace Go.Proofs.YtbioiclabmbedaaGreatDoor
/- THE CELL 'sum', in the pinned program and in every row, IS THE sha256 OF THE DUMP (.gsa) THAT YtbioiclabmbedaaGreatDoorProg.lean LOADS. Nothing in Lean hashes anything: it is a label: what it is worth is what the hold of that sum in a sandbox is worth. -/
noncomputable def Tryz.pinned : Pinned := { name := "ytbioiclabmbedaagreatdoor", sum := "785edff6f47b85de5d257466f211f770ed0031fdd81791bf3c18837de16477e9", checked := Tryz.checked }
namespace Rows
def none {H : Type} : Left H := { results := [], args := [] }

/- WHAT THE LISTED PACKAGE-LEVEL VARIABLES READ AS WHEN THE CALL BEGINS. Each datum BY PROGRAM (the guide's laid-datum.mjs) off the statement by which the dump's own 'gosem.cut.vars' lays the variable. In a bare row this is a premise. The card (YtbioiclabmbedaaGreatDoorCards.lean) ties it to the program's text. -/
def laid_unicode_utf8_acceptRanges {H : Type} : DataW H := .agg [.agg [.lit (.int .u8 128), .lit (.int .u8 191)], .agg [.lit (.int .u8 160), .lit (.int .u8 191)], .agg [.lit (.int .u8 128), .lit (.int .u8 159)], .agg [.lit (.int .u8 144), .lit (.int .u8 191)], .agg [.lit (.int .u8 128), .lit (.int .u8 143)], .agg [.lit (.int .u8 0), .lit (.int .u8 0)], .agg [.lit (.int .u8 0), .lit (.int .u8 0)], .agg [.lit (.int .u8 0), .lit (.int .u8 0)], .agg [.lit (.int .u8 0), .lit (.int .u8 0)], .agg [.lit (.int .u8 0), .lit (.int .u8 0)], .agg [.lit (.int .u8 0), .lit (.int .u8 0)], .agg [.lit (.int .u8 0), .lit (.int .u8 0)], .agg [.lit (.int .u8 0), .lit (.int .u8 0)], .agg [.lit (.int .u8 0), .lit (.int .u8 0)], .agg [.lit (.int .u8 0), .lit (.int .u8 0)], .agg [.lit (.int .u8 0), .lit (.int .u8 0)]]
/-- One of Go's own tables, pinned by name: the form's constant. -/
def laid_unicode_CaseRanges : DataW Unit := Go.Pinned.caseRanges
/-- One of Go's own tables, pinned by name: the form's constant. -/
def laid_unicode_utf8_first : DataW Unit := Go.Pinned.utf8First

/-- 'customhouselaw15.SilenceComplete': WHATEVER THE INPUT: true; the input reads as it did. -/
def silenceCompleteSpec : ChangeSpec := { name := "silenceComplete", fn := fun _ => fun
  | [d1, d2, d3, d4] => { results := [.lit (.bool true)], args := [d1, d2, d3, d4] }
  | _ => none }
def silenceCompleteRow : OpenClaim := { program := "ytbioiclabmbedaagreatdoor", sum := "785edff6f47b85de5d257466f211f770ed0031fdd81791bf3c18837de16477e9", func := "customhouse/customhouselaw15.SilenceComplete", spec := "silenceComplete", inPlace := ["internal/bytealg.IndexByteString", "internal/abi.NoEscape", "internal/bytealg.MakeNoZero", "internal/bytealg.IndexString", "internal/bytealg.abigen_runtime_cmpstring"], unfollowed := true, recurses := true, named := ["unicode/utf8.first", "unicode/utf8.acceptRanges", "unicode.CaseRanges", "internal/bytealg.MaxLen"], plainKeys := false, apart := false, laid := [("unicode/utf8.acceptRanges", laid_unicode_utf8_acceptRanges), ("unicode.CaseRanges", laid_unicode_CaseRanges), ("unicode/utf8.first", laid_unicode_utf8_first)] }
def SilenceCompleteSaid : Prop := silenceCompleteRow.holds Tryz.pinned (OpenSpec.ofChange silenceCompleteSpec)

/-- ITS FALSE NEIGHBOUR: 'it returns false'. Refute it at one input. -/
def silenceCompleteWrong : ChangeSpec := { name := "silenceComplete", fn := fun _ => fun
  | [d1, d2, d3, d4] => { results := [.lit (.bool false)], args := [d1, d2, d3, d4] }
  | _ => none }
def SilenceCompleteWrongFalsely : Prop := silenceCompleteRow.holds Tryz.pinned (OpenSpec.ofChange silenceCompleteWrong)

/-- 'customhouselaw15.SilenceFewer': WHATEVER THE INPUT: true; the input reads as it did. -/
def silenceFewerSpec : ChangeSpec := { name := "silenceFewer", fn := fun _ => fun
  | [d1, d2, d3, d4, d5] => { results := [.lit (.bool true)], args := [d1, d2, d3, d4, d5] }
  | _ => none }
def silenceFewerRow : OpenClaim := { program := "ytbioiclabmbedaagreatdoor", sum := "785edff6f47b85de5d257466f211f770ed0031fdd81791bf3c18837de16477e9", func := "customhouse/customhouselaw15.SilenceFewer", spec := "silenceFewer", inPlace := ["internal/bytealg.IndexByteString", "internal/abi.NoEscape", "internal/bytealg.MakeNoZero", "internal/bytealg.IndexString", "internal/bytealg.abigen_runtime_cmpstring"], unfollowed := true, recurses := true, named := ["unicode/utf8.first", "unicode/utf8.acceptRanges", "unicode.CaseRanges", "internal/bytealg.MaxLen"], plainKeys := false, apart := false, laid := [("unicode/utf8.acceptRanges", laid_unicode_utf8_acceptRanges), ("unicode.CaseRanges", laid_unicode_CaseRanges), ("unicode/utf8.first", laid_unicode_utf8_first)] }
def SilenceFewerSaid : Prop := silenceFewerRow.holds Tryz.pinned (OpenSpec.ofChange silenceFewerSpec)

/-- ITS FALSE NEIGHBOUR: 'it returns false'. Refute it at one input. -/
def silenceFewerWrong : ChangeSpec := { name := "silenceFewer", fn := fun _ => fun
  | [d1, d2, d3, d4, d5] => { results := [.lit (.bool false)], args := [d1, d2, d3, d4, d5] }
  | _ => none }
def SilenceFewerWrongFalsely : Prop := silenceFewerRow.holds Tryz.pinned (OpenSpec.ofChange silenceFewerWrong)

/-- 'customhouselaw15.SilenceDearer': WHATEVER THE INPUT: true; the input reads as it did. -/
def silenceDearerSpec : ChangeSpec := { name := "silenceDearer", fn := fun _ => fun
  | [d1, d2, d3, d4, d5, d6] => { results := [.lit (.bool true)], args := [d1, d2, d3, d4, d5, d6] }
  | _ => none }
def silenceDearerRow : OpenClaim := { program := "ytbioiclabmbedaagreatdoor", sum := "785edff6f47b85de5d257466f211f770ed0031fdd81791bf3c18837de16477e9", func := "customhouse/customhouselaw15.SilenceDearer", spec := "silenceDearer", inPlace := ["internal/bytealg.IndexByteString", "internal/abi.NoEscape", "internal/bytealg.MakeNoZero", "internal/bytealg.IndexString", "internal/bytealg.abigen_runtime_cmpstring"], unfollowed := true, recurses := true, named := ["unicode/utf8.first", "unicode/utf8.acceptRanges", "unicode.CaseRanges", "internal/bytealg.MaxLen"], plainKeys := false, apart := false, laid := [("unicode/utf8.acceptRanges", laid_unicode_utf8_acceptRanges), ("unicode.CaseRanges", laid_unicode_CaseRanges), ("unicode/utf8.first", laid_unicode_utf8_first)] }
def SilenceDearerSaid : Prop := silenceDearerRow.holds Tryz.pinned (OpenSpec.ofChange silenceDearerSpec)

/-- ITS FALSE NEIGHBOUR: 'it returns false'. Refute it at one input. -/
def silenceDearerWrong : ChangeSpec := { name := "silenceDearer", fn := fun _ => fun
  | [d1, d2, d3, d4, d5, d6] => { results := [.lit (.bool false)], args := [d1, d2, d3, d4, d5, d6] }
  | _ => none }
def SilenceDearerWrongFalsely : Prop := silenceDearerRow.holds Tryz.pinned (OpenSpec.ofChange silenceDearerWrong)

/-- 'customhouselaw15.SilenceTurned': WHATEVER THE INPUT: true; the input reads as it did. -/
def silenceTurnedSpec : ChangeSpec := { name := "silenceTurned", fn := fun _ => fun
  | [d1, d2, d3, d4] => { results := [.lit (.bool true)], args := [d1, d2, d3, d4] }
  | _ => none }
def silenceTurnedRow : OpenClaim := { program := "ytbioiclabmbedaagreatdoor", sum := "785edff6f47b85de5d257466f211f770ed0031fdd81791bf3c18837de16477e9", func := "customhouse/customhouselaw15.SilenceTurned", spec := "silenceTurned", inPlace := ["internal/bytealg.IndexByteString", "internal/abi.NoEscape", "internal/bytealg.MakeNoZero", "internal/bytealg.IndexString", "internal/bytealg.abigen_runtime_cmpstring"], unfollowed := true, recurses := true, named := ["unicode/utf8.first", "unicode/utf8.acceptRanges", "unicode.CaseRanges", "internal/bytealg.MaxLen"], plainKeys := false, apart := false, laid := [("unicode/utf8.acceptRanges", laid_unicode_utf8_acceptRanges), ("unicode.CaseRanges", laid_unicode_CaseRanges), ("unicode/utf8.first", laid_unicode_utf8_first)] }
def SilenceTurnedSaid : Prop := silenceTurnedRow.holds Tryz.pinned (OpenSpec.ofChange silenceTurnedSpec)

/-- ITS FALSE NEIGHBOUR: 'it returns false'. Refute it at one input. -/
def silenceTurnedWrong : ChangeSpec := { name := "silenceTurned", fn := fun _ => fun
  | [d1, d2, d3, d4] => { results := [.lit (.bool false)], args := [d1, d2, d3, d4] }
  | _ => none }
def SilenceTurnedWrongFalsely : Prop := silenceTurnedRow.holds Tryz.pinned (OpenSpec.ofChange silenceTurnedWrong)

/-- 'customhouselaw15.SilenceNothing': WHATEVER THE INPUT: true; the input reads as it did. -/
def silenceNothingSpec : ChangeSpec := { name := "silenceNothing", fn := fun _ => fun
  | [d1, d2, d3] => { results := [.lit (.bool true)], args := [d1, d2, d3] }
  | _ => none }
def silenceNothingRow : OpenClaim := { program := "ytbioiclabmbedaagreatdoor", sum := "785edff6f47b85de5d257466f211f770ed0031fdd81791bf3c18837de16477e9", func := "customhouse/customhouselaw15.SilenceNothing", spec := "silenceNothing", inPlace := ["internal/bytealg.IndexByteString", "internal/abi.NoEscape", "internal/bytealg.MakeNoZero", "internal/bytealg.IndexString", "internal/bytealg.abigen_runtime_cmpstring"], unfollowed := true, recurses := true, named := ["unicode/utf8.first", "unicode/utf8.acceptRanges", "unicode.CaseRanges", "internal/bytealg.MaxLen"], plainKeys := false, apart := false, laid := [("unicode/utf8.acceptRanges", laid_unicode_utf8_acceptRanges), ("unicode.CaseRanges", laid_unicode_CaseRanges), ("unicode/utf8.first", laid_unicode_utf8_first)] }
def SilenceNothingSaid : Prop := silenceNothingRow.holds Tryz.pinned (OpenSpec.ofChange silenceNothingSpec)

/-- ITS FALSE NEIGHBOUR: 'it returns false'. Refute it at one input. -/
def silenceNothingWrong : ChangeSpec := { name := "silenceNothing", fn := fun _ => fun
  | [d1, d2, d3] => { results := [.lit (.bool false)], args := [d1, d2, d3] }
  | _ => none }
def SilenceNothingWrongFalsely : Prop := silenceNothingRow.holds Tryz.pinned (OpenSpec.ofChange silenceNothingWrong)

/-- 'customhouselaw15.SilenceWords': WHATEVER THE INPUT: true; the input reads as it did. -/
def silenceWordsSpec : ChangeSpec := { name := "silenceWords", fn := fun _ => fun
  | [d1, d2, d3, d4] => { results := [.lit (.bool true)], args := [d1, d2, d3, d4] }
  | _ => none }
def silenceWordsRow : OpenClaim := { program := "ytbioiclabmbedaagreatdoor", sum := "785edff6f47b85de5d257466f211f770ed0031fdd81791bf3c18837de16477e9", func := "customhouse/customhouselaw15.SilenceWords", spec := "silenceWords", inPlace := ["internal/bytealg.IndexByteString", "internal/abi.NoEscape", "internal/bytealg.MakeNoZero", "internal/bytealg.IndexString", "internal/bytealg.abigen_runtime_cmpstring"], unfollowed := true, recurses := true, named := ["unicode/utf8.first", "unicode/utf8.acceptRanges", "unicode.CaseRanges", "internal/bytealg.MaxLen"], plainKeys := false, apart := false, laid := [("unicode/utf8.acceptRanges", laid_unicode_utf8_acceptRanges), ("unicode.CaseRanges", laid_unicode_CaseRanges), ("unicode/utf8.first", laid_unicode_utf8_first)] }
def SilenceWordsSaid : Prop := silenceWordsRow.holds Tryz.pinned (OpenSpec.ofChange silenceWordsSpec)

/-- ITS FALSE NEIGHBOUR: 'it returns false'. Refute it at one input. -/
def silenceWordsWrong : ChangeSpec := { name := "silenceWords", fn := fun _ => fun
  | [d1, d2, d3, d4] => { results := [.lit (.bool false)], args := [d1, d2, d3, d4] }
  | _ => none }
def SilenceWordsWrongFalsely : Prop := silenceWordsRow.holds Tryz.pinned (OpenSpec.ofChange silenceWordsWrong)

/-- 'customhouselaw15.SilenceSound': WHATEVER THE INPUT: true; the input reads as it did. -/
def silenceSoundSpec : ChangeSpec := { name := "silenceSound", fn := fun _ => fun
  | [d1, d2, d3, d4, d5] => { results := [.lit (.bool true)], args := [d1, d2, d3, d4, d5] }
  | _ => none }
def silenceSoundRow : OpenClaim := { program := "ytbioiclabmbedaagreatdoor", sum := "785edff6f47b85de5d257466f211f770ed0031fdd81791bf3c18837de16477e9", func := "customhouse/customhouselaw15.SilenceSound", spec := "silenceSound", inPlace := ["internal/bytealg.IndexByteString", "internal/abi.NoEscape", "internal/bytealg.MakeNoZero", "internal/bytealg.IndexString", "internal/bytealg.abigen_runtime_cmpstring"], unfollowed := true, recurses := true, named := ["unicode/utf8.first", "unicode/utf8.acceptRanges", "unicode.CaseRanges", "internal/bytealg.MaxLen"], plainKeys := false, apart := false, laid := [("unicode/utf8.acceptRanges", laid_unicode_utf8_acceptRanges), ("unicode.CaseRanges", laid_unicode_CaseRanges), ("unicode/utf8.first", laid_unicode_utf8_first)] }
def SilenceSoundSaid : Prop := silenceSoundRow.holds Tryz.pinned (OpenSpec.ofChange silenceSoundSpec)

/-- ITS FALSE NEIGHBOUR: 'it returns false'. Refute it at one input. -/
def silenceSoundWrong : ChangeSpec := { name := "silenceSound", fn := fun _ => fun
  | [d1, d2, d3, d4, d5] => { results := [.lit (.bool false)], args := [d1, d2, d3, d4, d5] }
  | _ => none }
def SilenceSoundWrongFalsely : Prop := silenceSoundRow.holds Tryz.pinned (OpenSpec.ofChange silenceSoundWrong)

/- THE SECOND FORM. 'bulk': how many values and letters a reading holds, each counted each time it is reached (what is shared counts as often as it is met; a slice's spare places count too). A statement '..UptoSaid' is the law's where the arguments, and the package variables that the reading takes, are together of bulk at most 1048576: NARROWER than '..Said'. Prove '..Said' where nothing that the law and all that it calls make is longer than what came in: it says more and counts as full. Else prove '..UptoSaid'. A law counts once. -/
mutual
def uptoBulk {H : Type} : DataW H → Nat
  | .lit (.string bytes) => bytes.length + 1
  | .lit _ => 1
  | .nil => 1
  | .ptr d => uptoBulk d + 1
  | .slice elems spare => uptoBulkAll elems + uptoBulkAll spare + 1
  | .agg parts => uptoBulkAll parts + 1
  | .iface _ d => uptoBulk d + 1
  | .map entries => uptoBulkEntries entries + 1
  | .held _ => 1
def uptoBulkAll {H : Type} : List (DataW H) → Nat
  | [] => 0
  | d :: r => uptoBulk d + uptoBulkAll r
def uptoBulkEntries {H : Type} : List (Lit × DataW H) → Nat
  | [] => 0
  | x :: r => uptoBulkEntry x + uptoBulkEntries r
def uptoBulkEntry {H : Type} : Lit × DataW H → Nat
  | (.string bytes, d) => bytes.length + uptoBulk d + 1
  | (_, d) => uptoBulk d + 1
 end
def uptoSmall : (H : Type) → List (DataW H) → Bool := fun _ ds => decide (uptoBulkAll ds ≤ 1048576)
def OpenSpec.upto (s : _root_.Go.ChangeSpec) : _root_.Go.OpenSpec := { _root_.Go.OpenSpec.ofChange s with cond := some uptoSmall }

/-- 'customhouselaw15.SilenceComplete', WHERE WHAT IT READS IS OF BULK AT MOST 1048576: true; the input reads as it did. -/
def silenceCompleteUptoRow : OpenClaim := { program := "ytbioiclabmbedaagreatdoor", sum := "785edff6f47b85de5d257466f211f770ed0031fdd81791bf3c18837de16477e9", func := "customhouse/customhouselaw15.SilenceComplete", spec := "silenceComplete", inPlace := ["internal/bytealg.IndexByteString", "internal/abi.NoEscape", "internal/bytealg.MakeNoZero", "internal/bytealg.IndexString", "internal/bytealg.abigen_runtime_cmpstring"], unfollowed := true, recurses := true, named := ["unicode/utf8.first", "unicode/utf8.acceptRanges", "unicode.CaseRanges", "internal/bytealg.MaxLen"], plainKeys := false, apart := false, laid := [("unicode/utf8.acceptRanges", laid_unicode_utf8_acceptRanges), ("unicode.CaseRanges", laid_unicode_CaseRanges), ("unicode/utf8.first", laid_unicode_utf8_first)], narrowed := true }
def SilenceCompleteUptoSaid : Prop := silenceCompleteUptoRow.holds Tryz.pinned (OpenSpec.upto silenceCompleteSpec)

/-- 'customhouselaw15.SilenceFewer', WHERE WHAT IT READS IS OF BULK AT MOST 1048576: true; the input reads as it did. -/
def silenceFewerUptoRow : OpenClaim := { program := "ytbioiclabmbedaagreatdoor", sum := "785edff6f47b85de5d257466f211f770ed0031fdd81791bf3c18837de16477e9", func := "customhouse/customhouselaw15.SilenceFewer", spec := "silenceFewer", inPlace := ["internal/bytealg.IndexByteString", "internal/abi.NoEscape", "internal/bytealg.MakeNoZero", "internal/bytealg.IndexString", "internal/bytealg.abigen_runtime_cmpstring"], unfollowed := true, recurses := true, named := ["unicode/utf8.first", "unicode/utf8.acceptRanges", "unicode.CaseRanges", "internal/bytealg.MaxLen"], plainKeys := false, apart := false, laid := [("unicode/utf8.acceptRanges", laid_unicode_utf8_acceptRanges), ("unicode.CaseRanges", laid_unicode_CaseRanges), ("unicode/utf8.first", laid_unicode_utf8_first)], narrowed := true }
def SilenceFewerUptoSaid : Prop := silenceFewerUptoRow.holds Tryz.pinned (OpenSpec.upto silenceFewerSpec)

/-- 'customhouselaw15.SilenceDearer', WHERE WHAT IT READS IS OF BULK AT MOST 1048576: true; the input reads as it did. -/
def silenceDearerUptoRow : OpenClaim := { program := "ytbioiclabmbedaagreatdoor", sum := "785edff6f47b85de5d257466f211f770ed0031fdd81791bf3c18837de16477e9", func := "customhouse/customhouselaw15.SilenceDearer", spec := "silenceDearer", inPlace := ["internal/bytealg.IndexByteString", "internal/abi.NoEscape", "internal/bytealg.MakeNoZero", "internal/bytealg.IndexString", "internal/bytealg.abigen_runtime_cmpstring"], unfollowed := true, recurses := true, named := ["unicode/utf8.first", "unicode/utf8.acceptRanges", "unicode.CaseRanges", "internal/bytealg.MaxLen"], plainKeys := false, apart := false, laid := [("unicode/utf8.acceptRanges", laid_unicode_utf8_acceptRanges), ("unicode.CaseRanges", laid_unicode_CaseRanges), ("unicode/utf8.first", laid_unicode_utf8_first)], narrowed := true }
def SilenceDearerUptoSaid : Prop := silenceDearerUptoRow.holds Tryz.pinned (OpenSpec.upto silenceDearerSpec)

/-- 'customhouselaw15.SilenceTurned', WHERE WHAT IT READS IS OF BULK AT MOST 1048576: true; the input reads as it did. -/
def silenceTurnedUptoRow : OpenClaim := { program := "ytbioiclabmbedaagreatdoor", sum := "785edff6f47b85de5d257466f211f770ed0031fdd81791bf3c18837de16477e9", func := "customhouse/customhouselaw15.SilenceTurned", spec := "silenceTurned", inPlace := ["internal/bytealg.IndexByteString", "internal/abi.NoEscape", "internal/bytealg.MakeNoZero", "internal/bytealg.IndexString", "internal/bytealg.abigen_runtime_cmpstring"], unfollowed := true, recurses := true, named := ["unicode/utf8.first", "unicode/utf8.acceptRanges", "unicode.CaseRanges", "internal/bytealg.MaxLen"], plainKeys := false, apart := false, laid := [("unicode/utf8.acceptRanges", laid_unicode_utf8_acceptRanges), ("unicode.CaseRanges", laid_unicode_CaseRanges), ("unicode/utf8.first", laid_unicode_utf8_first)], narrowed := true }
def SilenceTurnedUptoSaid : Prop := silenceTurnedUptoRow.holds Tryz.pinned (OpenSpec.upto silenceTurnedSpec)

/-- 'customhouselaw15.SilenceNothing', WHERE WHAT IT READS IS OF BULK AT MOST 1048576: true; the input reads as it did. -/
def silenceNothingUptoRow : OpenClaim := { program := "ytbioiclabmbedaagreatdoor", sum := "785edff6f47b85de5d257466f211f770ed0031fdd81791bf3c18837de16477e9", func := "customhouse/customhouselaw15.SilenceNothing", spec := "silenceNothing", inPlace := ["internal/bytealg.IndexByteString", "internal/abi.NoEscape", "internal/bytealg.MakeNoZero", "internal/bytealg.IndexString", "internal/bytealg.abigen_runtime_cmpstring"], unfollowed := true, recurses := true, named := ["unicode/utf8.first", "unicode/utf8.acceptRanges", "unicode.CaseRanges", "internal/bytealg.MaxLen"], plainKeys := false, apart := false, laid := [("unicode/utf8.acceptRanges", laid_unicode_utf8_acceptRanges), ("unicode.CaseRanges", laid_unicode_CaseRanges), ("unicode/utf8.first", laid_unicode_utf8_first)], narrowed := true }
def SilenceNothingUptoSaid : Prop := silenceNothingUptoRow.holds Tryz.pinned (OpenSpec.upto silenceNothingSpec)

/-- 'customhouselaw15.SilenceWords', WHERE WHAT IT READS IS OF BULK AT MOST 1048576: true; the input reads as it did. -/
def silenceWordsUptoRow : OpenClaim := { program := "ytbioiclabmbedaagreatdoor", sum := "785edff6f47b85de5d257466f211f770ed0031fdd81791bf3c18837de16477e9", func := "customhouse/customhouselaw15.SilenceWords", spec := "silenceWords", inPlace := ["internal/bytealg.IndexByteString", "internal/abi.NoEscape", "internal/bytealg.MakeNoZero", "internal/bytealg.IndexString", "internal/bytealg.abigen_runtime_cmpstring"], unfollowed := true, recurses := true, named := ["unicode/utf8.first", "unicode/utf8.acceptRanges", "unicode.CaseRanges", "internal/bytealg.MaxLen"], plainKeys := false, apart := false, laid := [("unicode/utf8.acceptRanges", laid_unicode_utf8_acceptRanges), ("unicode.CaseRanges", laid_unicode_CaseRanges), ("unicode/utf8.first", laid_unicode_utf8_first)], narrowed := true }
def SilenceWordsUptoSaid : Prop := silenceWordsUptoRow.holds Tryz.pinned (OpenSpec.upto silenceWordsSpec)

/-- 'customhouselaw15.SilenceSound', WHERE WHAT IT READS IS OF BULK AT MOST 1048576: true; the input reads as it did. -/
def silenceSoundUptoRow : OpenClaim := { program := "ytbioiclabmbedaagreatdoor", sum := "785edff6f47b85de5d257466f211f770ed0031fdd81791bf3c18837de16477e9", func := "customhouse/customhouselaw15.SilenceSound", spec := "silenceSound", inPlace := ["internal/bytealg.IndexByteString", "internal/abi.NoEscape", "internal/bytealg.MakeNoZero", "internal/bytealg.IndexString", "internal/bytealg.abigen_runtime_cmpstring"], unfollowed := true, recurses := true, named := ["unicode/utf8.first", "unicode/utf8.acceptRanges", "unicode.CaseRanges", "internal/bytealg.MaxLen"], plainKeys := false, apart := false, laid := [("unicode/utf8.acceptRanges", laid_unicode_utf8_acceptRanges), ("unicode.CaseRanges", laid_unicode_CaseRanges), ("unicode/utf8.first", laid_unicode_utf8_first)], narrowed := true }
def SilenceSoundUptoSaid : Prop := silenceSoundUptoRow.holds Tryz.pinned (OpenSpec.upto silenceSoundSpec)

end Rows
end Go.Proofs.YtbioiclabmbedaaGreatDoor
