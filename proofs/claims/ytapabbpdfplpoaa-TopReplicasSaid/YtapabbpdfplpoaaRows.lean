/-
  No cell of these rows narrows 'for every input' (looked for: loops, veiled, ifaces, maps, wideKeys, modest, calm, conditions, laid).
  DERIVED. THE GIVEN ROWS OF THIS SEAT. 14 by the template 'for every input the law returns true; each argument reads behind the call as it read before'; 0 by the template 'total and deterministic' (their statements: YtapabbpdfplpoaaTotals.lean).
  GIVEN WITH THE SEED: the statements are not yours to turn. If you find one false, say at which input.
  Laid BY PROGRAM, IN A SANDBOX (cutbox-rows.mjs): the forced cells as the released guide's own fill.sh prints them over the translation 5130e1742263b767… (all of the seat's roots in one cut). By AI agents, Wed Nov 11 2026. No macro, syntax, notation, axiom, sorry.
-/
import Derived.Test.YtapabbpdfplpoaaChecked
import GoSem.Claim
import GoSem.ClaimJoined
import GoSem.ClaimMapViews
import Derived.JoinedTies
import Derived.KernelRfl
namespace Go.Proofs.Ytapabbpdfplpoaa
/- THE CELL 'sum', in the pinned program and in every row, IS THE sha256 OF THE DUMP (.gsa) THAT YtapabbpdfplpoaaProg.lean LOADS. Nothing in Lean hashes anything: it is a label: what it is worth is what the hold of that sum in a sandbox is worth. -/
noncomputable def Try.pinned : Pinned := { name := "ytapabbpdfplpoaa", sum := "5130e1742263b767388e40579d3aae25d8cb79a16b1835fe2d23129fc4048c1e", checked := Try.checked }
namespace Rows
def none {H : Type} : Left H := { results := [], args := [] }

/-- 'customhouselaw36.EscrowMatchesReference': WHATEVER THE INPUT: true; the input reads as it did. -/
def escrowMatchesReferenceSpec : ChangeSpec := { name := "escrowMatchesReference", fn := fun _ => fun
  | [d1, d2, d3] => { results := [.lit (.bool true)], args := [d1, d2, d3] }
  | _ => none }
def escrowMatchesReferenceRow : OpenClaim := { program := "ytapabbpdfplpoaa", sum := "5130e1742263b767388e40579d3aae25d8cb79a16b1835fe2d23129fc4048c1e", func := "customhouse/customhouselaw36.EscrowMatchesReference", spec := "escrowMatchesReference", unfollowed := true, recurses := true, plainKeys := false, apart := false }
def EscrowMatchesReferenceSaid : Prop := escrowMatchesReferenceRow.holds Try.pinned (OpenSpec.ofChange escrowMatchesReferenceSpec)

/-- ITS FALSE NEIGHBOUR: 'it returns false'. Refute it at one input. -/
def escrowMatchesReferenceWrong : ChangeSpec := { name := "escrowMatchesReference", fn := fun _ => fun
  | [d1, d2, d3] => { results := [.lit (.bool false)], args := [d1, d2, d3] }
  | _ => none }
def EscrowMatchesReferenceWrongFalsely : Prop := escrowMatchesReferenceRow.holds Try.pinned (OpenSpec.ofChange escrowMatchesReferenceWrong)

/-- 'customhouselaw36.EscrowConserves': WHATEVER THE INPUT: true; the input reads as it did. -/
def escrowConservesSpec : ChangeSpec := { name := "escrowConserves", fn := fun _ => fun
  | [d1, d2, d3] => { results := [.lit (.bool true)], args := [d1, d2, d3] }
  | _ => none }
def escrowConservesRow : OpenClaim := { program := "ytapabbpdfplpoaa", sum := "5130e1742263b767388e40579d3aae25d8cb79a16b1835fe2d23129fc4048c1e", func := "customhouse/customhouselaw36.EscrowConserves", spec := "escrowConserves", unfollowed := true, recurses := true, plainKeys := false, apart := false }
def EscrowConservesSaid : Prop := escrowConservesRow.holds Try.pinned (OpenSpec.ofChange escrowConservesSpec)

/-- ITS FALSE NEIGHBOUR: 'it returns false'. Refute it at one input. -/
def escrowConservesWrong : ChangeSpec := { name := "escrowConserves", fn := fun _ => fun
  | [d1, d2, d3] => { results := [.lit (.bool false)], args := [d1, d2, d3] }
  | _ => none }
def EscrowConservesWrongFalsely : Prop := escrowConservesRow.holds Try.pinned (OpenSpec.ofChange escrowConservesWrong)

/-- 'customhouselaw36.EscrowOnce': WHATEVER THE INPUT: true; the input reads as it did. -/
def escrowOnceSpec : ChangeSpec := { name := "escrowOnce", fn := fun _ => fun
  | [d1, d2, d3, d4, d5] => { results := [.lit (.bool true)], args := [d1, d2, d3, d4, d5] }
  | _ => none }
def escrowOnceRow : OpenClaim := { program := "ytapabbpdfplpoaa", sum := "5130e1742263b767388e40579d3aae25d8cb79a16b1835fe2d23129fc4048c1e", func := "customhouse/customhouselaw36.EscrowOnce", spec := "escrowOnce", unfollowed := true, recurses := true, plainKeys := false, apart := false }
def EscrowOnceSaid : Prop := escrowOnceRow.holds Try.pinned (OpenSpec.ofChange escrowOnceSpec)

/-- ITS FALSE NEIGHBOUR: 'it returns false'. Refute it at one input. -/
def escrowOnceWrong : ChangeSpec := { name := "escrowOnce", fn := fun _ => fun
  | [d1, d2, d3, d4, d5] => { results := [.lit (.bool false)], args := [d1, d2, d3, d4, d5] }
  | _ => none }
def EscrowOnceWrongFalsely : Prop := escrowOnceRow.holds Try.pinned (OpenSpec.ofChange escrowOnceWrong)

/-- 'customhouselaw36.EscrowArrives': WHATEVER THE INPUT: true; the input reads as it did. -/
def escrowArrivesSpec : ChangeSpec := { name := "escrowArrives", fn := fun _ => fun
  | [d1, d2, d3, d4, d5] => { results := [.lit (.bool true)], args := [d1, d2, d3, d4, d5] }
  | _ => none }
def escrowArrivesRow : OpenClaim := { program := "ytapabbpdfplpoaa", sum := "5130e1742263b767388e40579d3aae25d8cb79a16b1835fe2d23129fc4048c1e", func := "customhouse/customhouselaw36.EscrowArrives", spec := "escrowArrives", unfollowed := true, recurses := true, plainKeys := false, apart := false }
def EscrowArrivesSaid : Prop := escrowArrivesRow.holds Try.pinned (OpenSpec.ofChange escrowArrivesSpec)

/-- ITS FALSE NEIGHBOUR: 'it returns false'. Refute it at one input. -/
def escrowArrivesWrong : ChangeSpec := { name := "escrowArrives", fn := fun _ => fun
  | [d1, d2, d3, d4, d5] => { results := [.lit (.bool false)], args := [d1, d2, d3, d4, d5] }
  | _ => none }
def EscrowArrivesWrongFalsely : Prop := escrowArrivesRow.holds Try.pinned (OpenSpec.ofChange escrowArrivesWrong)

/-- 'customhouselaw36.EscrowRevokes': WHATEVER THE INPUT: true; the input reads as it did. -/
def escrowRevokesSpec : ChangeSpec := { name := "escrowRevokes", fn := fun _ => fun
  | [d1, d2, d3, d4, d5] => { results := [.lit (.bool true)], args := [d1, d2, d3, d4, d5] }
  | _ => none }
def escrowRevokesRow : OpenClaim := { program := "ytapabbpdfplpoaa", sum := "5130e1742263b767388e40579d3aae25d8cb79a16b1835fe2d23129fc4048c1e", func := "customhouse/customhouselaw36.EscrowRevokes", spec := "escrowRevokes", unfollowed := true, recurses := true, plainKeys := false, apart := false }
def EscrowRevokesSaid : Prop := escrowRevokesRow.holds Try.pinned (OpenSpec.ofChange escrowRevokesSpec)

/-- ITS FALSE NEIGHBOUR: 'it returns false'. Refute it at one input. -/
def escrowRevokesWrong : ChangeSpec := { name := "escrowRevokes", fn := fun _ => fun
  | [d1, d2, d3, d4, d5] => { results := [.lit (.bool false)], args := [d1, d2, d3, d4, d5] }
  | _ => none }
def EscrowRevokesWrongFalsely : Prop := escrowRevokesRow.holds Try.pinned (OpenSpec.ofChange escrowRevokesWrong)

/-- 'customhouselaw36.EscrowConfirms': WHATEVER THE INPUT: true; the input reads as it did. -/
def escrowConfirmsSpec : ChangeSpec := { name := "escrowConfirms", fn := fun _ => fun
  | [d1, d2, d3, d4, d5] => { results := [.lit (.bool true)], args := [d1, d2, d3, d4, d5] }
  | _ => none }
def escrowConfirmsRow : OpenClaim := { program := "ytapabbpdfplpoaa", sum := "5130e1742263b767388e40579d3aae25d8cb79a16b1835fe2d23129fc4048c1e", func := "customhouse/customhouselaw36.EscrowConfirms", spec := "escrowConfirms", unfollowed := true, recurses := true, plainKeys := false, apart := false }
def EscrowConfirmsSaid : Prop := escrowConfirmsRow.holds Try.pinned (OpenSpec.ofChange escrowConfirmsSpec)

/-- ITS FALSE NEIGHBOUR: 'it returns false'. Refute it at one input. -/
def escrowConfirmsWrong : ChangeSpec := { name := "escrowConfirms", fn := fun _ => fun
  | [d1, d2, d3, d4, d5] => { results := [.lit (.bool false)], args := [d1, d2, d3, d4, d5] }
  | _ => none }
def EscrowConfirmsWrongFalsely : Prop := escrowConfirmsRow.holds Try.pinned (OpenSpec.ofChange escrowConfirmsWrong)

/-- 'customhouselaw36.EscrowOthers': WHATEVER THE INPUT: true; the input reads as it did. -/
def escrowOthersSpec : ChangeSpec := { name := "escrowOthers", fn := fun _ => fun
  | [d1, d2, d3] => { results := [.lit (.bool true)], args := [d1, d2, d3] }
  | _ => none }
def escrowOthersRow : OpenClaim := { program := "ytapabbpdfplpoaa", sum := "5130e1742263b767388e40579d3aae25d8cb79a16b1835fe2d23129fc4048c1e", func := "customhouse/customhouselaw36.EscrowOthers", spec := "escrowOthers", unfollowed := true, recurses := true, plainKeys := false, apart := false }
def EscrowOthersSaid : Prop := escrowOthersRow.holds Try.pinned (OpenSpec.ofChange escrowOthersSpec)

/-- ITS FALSE NEIGHBOUR: 'it returns false'. Refute it at one input. -/
def escrowOthersWrong : ChangeSpec := { name := "escrowOthers", fn := fun _ => fun
  | [d1, d2, d3] => { results := [.lit (.bool false)], args := [d1, d2, d3] }
  | _ => none }
def EscrowOthersWrongFalsely : Prop := escrowOthersRow.holds Try.pinned (OpenSpec.ofChange escrowOthersWrong)

/-- 'customhousetop.TopReplicas': WHATEVER THE INPUT: true; the input reads as it did. -/
def topReplicasSpec : ChangeSpec := { name := "topReplicas", fn := fun _ => fun
  | [d1, d2] => { results := [.lit (.bool true)], args := [d1, d2] }
  | _ => none }
def topReplicasRow : OpenClaim := { program := "ytapabbpdfplpoaa", sum := "5130e1742263b767388e40579d3aae25d8cb79a16b1835fe2d23129fc4048c1e", func := "customhouse/customhousetop.TopReplicas", spec := "topReplicas", unfollowed := true, recurses := true, plainKeys := false, apart := false }
def TopReplicasSaid : Prop := topReplicasRow.holds Try.pinned (OpenSpec.ofChange topReplicasSpec)

/-- ITS FALSE NEIGHBOUR: 'it returns false'. Refute it at one input. -/
def topReplicasWrong : ChangeSpec := { name := "topReplicas", fn := fun _ => fun
  | [d1, d2] => { results := [.lit (.bool false)], args := [d1, d2] }
  | _ => none }
def TopReplicasWrongFalsely : Prop := topReplicasRow.holds Try.pinned (OpenSpec.ofChange topReplicasWrong)

/-- 'customhouselaw35.LicenceMatchesReference': WHATEVER THE INPUT: true; the input reads as it did. -/
def licenceMatchesReferenceSpec : ChangeSpec := { name := "licenceMatchesReference", fn := fun _ => fun
  | [d1, d2, d3] => { results := [.lit (.bool true)], args := [d1, d2, d3] }
  | _ => none }
def licenceMatchesReferenceRow : OpenClaim := { program := "ytapabbpdfplpoaa", sum := "5130e1742263b767388e40579d3aae25d8cb79a16b1835fe2d23129fc4048c1e", func := "customhouse/customhouselaw35.LicenceMatchesReference", spec := "licenceMatchesReference", unfollowed := true, recurses := true, plainKeys := false, apart := false }
def LicenceMatchesReferenceSaid : Prop := licenceMatchesReferenceRow.holds Try.pinned (OpenSpec.ofChange licenceMatchesReferenceSpec)

/-- ITS FALSE NEIGHBOUR: 'it returns false'. Refute it at one input. -/
def licenceMatchesReferenceWrong : ChangeSpec := { name := "licenceMatchesReference", fn := fun _ => fun
  | [d1, d2, d3] => { results := [.lit (.bool false)], args := [d1, d2, d3] }
  | _ => none }
def LicenceMatchesReferenceWrongFalsely : Prop := licenceMatchesReferenceRow.holds Try.pinned (OpenSpec.ofChange licenceMatchesReferenceWrong)

/-- 'customhouselaw35.LicenceNil': WHATEVER THE INPUT: true; the input reads as it did. -/
def licenceNilSpec : ChangeSpec := { name := "licenceNil", fn := fun _ => fun
  | [d1, d2, d3] => { results := [.lit (.bool true)], args := [d1, d2, d3] }
  | _ => none }
def licenceNilRow : OpenClaim := { program := "ytapabbpdfplpoaa", sum := "5130e1742263b767388e40579d3aae25d8cb79a16b1835fe2d23129fc4048c1e", func := "customhouse/customhouselaw35.LicenceNil", spec := "licenceNil", unfollowed := true, recurses := true, plainKeys := false, apart := false }
def LicenceNilSaid : Prop := licenceNilRow.holds Try.pinned (OpenSpec.ofChange licenceNilSpec)

/-- ITS FALSE NEIGHBOUR: 'it returns false'. Refute it at one input. -/
def licenceNilWrong : ChangeSpec := { name := "licenceNil", fn := fun _ => fun
  | [d1, d2, d3] => { results := [.lit (.bool false)], args := [d1, d2, d3] }
  | _ => none }
def LicenceNilWrongFalsely : Prop := licenceNilRow.holds Try.pinned (OpenSpec.ofChange licenceNilWrong)

/-- 'customhouselaw35.LicenceNeverOverspent': WHATEVER THE INPUT: true; the input reads as it did. -/
def licenceNeverOverspentSpec : ChangeSpec := { name := "licenceNeverOverspent", fn := fun _ => fun
  | [d1, d2] => { results := [.lit (.bool true)], args := [d1, d2] }
  | _ => none }
def licenceNeverOverspentRow : OpenClaim := { program := "ytapabbpdfplpoaa", sum := "5130e1742263b767388e40579d3aae25d8cb79a16b1835fe2d23129fc4048c1e", func := "customhouse/customhouselaw35.LicenceNeverOverspent", spec := "licenceNeverOverspent", unfollowed := true, recurses := true, plainKeys := false, apart := false }
def LicenceNeverOverspentSaid : Prop := licenceNeverOverspentRow.holds Try.pinned (OpenSpec.ofChange licenceNeverOverspentSpec)

/-- ITS FALSE NEIGHBOUR: 'it returns false'. Refute it at one input. -/
def licenceNeverOverspentWrong : ChangeSpec := { name := "licenceNeverOverspent", fn := fun _ => fun
  | [d1, d2] => { results := [.lit (.bool false)], args := [d1, d2] }
  | _ => none }
def LicenceNeverOverspentWrongFalsely : Prop := licenceNeverOverspentRow.holds Try.pinned (OpenSpec.ofChange licenceNeverOverspentWrong)

/-- 'customhouselaw35.LicenceRevoked': WHATEVER THE INPUT: true; the input reads as it did. -/
def licenceRevokedSpec : ChangeSpec := { name := "licenceRevoked", fn := fun _ => fun
  | [d1, d2, d3, d4, d5] => { results := [.lit (.bool true)], args := [d1, d2, d3, d4, d5] }
  | _ => none }
def licenceRevokedRow : OpenClaim := { program := "ytapabbpdfplpoaa", sum := "5130e1742263b767388e40579d3aae25d8cb79a16b1835fe2d23129fc4048c1e", func := "customhouse/customhouselaw35.LicenceRevoked", spec := "licenceRevoked", unfollowed := true, recurses := true, plainKeys := false, apart := false }
def LicenceRevokedSaid : Prop := licenceRevokedRow.holds Try.pinned (OpenSpec.ofChange licenceRevokedSpec)

/-- ITS FALSE NEIGHBOUR: 'it returns false'. Refute it at one input. -/
def licenceRevokedWrong : ChangeSpec := { name := "licenceRevoked", fn := fun _ => fun
  | [d1, d2, d3, d4, d5] => { results := [.lit (.bool false)], args := [d1, d2, d3, d4, d5] }
  | _ => none }
def LicenceRevokedWrongFalsely : Prop := licenceRevokedRow.holds Try.pinned (OpenSpec.ofChange licenceRevokedWrong)

/-- 'customhouselaw35.LicenceSplits': WHATEVER THE INPUT: true; the input reads as it did. -/
def licenceSplitsSpec : ChangeSpec := { name := "licenceSplits", fn := fun _ => fun
  | [d1, d2, d3, d4, d5, d6] => { results := [.lit (.bool true)], args := [d1, d2, d3, d4, d5, d6] }
  | _ => none }
def licenceSplitsRow : OpenClaim := { program := "ytapabbpdfplpoaa", sum := "5130e1742263b767388e40579d3aae25d8cb79a16b1835fe2d23129fc4048c1e", func := "customhouse/customhouselaw35.LicenceSplits", spec := "licenceSplits", unfollowed := true, recurses := true, plainKeys := false, apart := false }
def LicenceSplitsSaid : Prop := licenceSplitsRow.holds Try.pinned (OpenSpec.ofChange licenceSplitsSpec)

/-- ITS FALSE NEIGHBOUR: 'it returns false'. Refute it at one input. -/
def licenceSplitsWrong : ChangeSpec := { name := "licenceSplits", fn := fun _ => fun
  | [d1, d2, d3, d4, d5, d6] => { results := [.lit (.bool false)], args := [d1, d2, d3, d4, d5, d6] }
  | _ => none }
def LicenceSplitsWrongFalsely : Prop := licenceSplitsRow.holds Try.pinned (OpenSpec.ofChange licenceSplitsWrong)

/-- 'customhouselaw35.LicenceOthers': WHATEVER THE INPUT: true; the input reads as it did. -/
def licenceOthersSpec : ChangeSpec := { name := "licenceOthers", fn := fun _ => fun
  | [d1, d2, d3] => { results := [.lit (.bool true)], args := [d1, d2, d3] }
  | _ => none }
def licenceOthersRow : OpenClaim := { program := "ytapabbpdfplpoaa", sum := "5130e1742263b767388e40579d3aae25d8cb79a16b1835fe2d23129fc4048c1e", func := "customhouse/customhouselaw35.LicenceOthers", spec := "licenceOthers", unfollowed := true, recurses := true, plainKeys := false, apart := false }
def LicenceOthersSaid : Prop := licenceOthersRow.holds Try.pinned (OpenSpec.ofChange licenceOthersSpec)

/-- ITS FALSE NEIGHBOUR: 'it returns false'. Refute it at one input. -/
def licenceOthersWrong : ChangeSpec := { name := "licenceOthers", fn := fun _ => fun
  | [d1, d2, d3] => { results := [.lit (.bool false)], args := [d1, d2, d3] }
  | _ => none }
def LicenceOthersWrongFalsely : Prop := licenceOthersRow.holds Try.pinned (OpenSpec.ofChange licenceOthersWrong)

/- THE SECOND FORM. 'bulk': how many values and letters a reading holds, each counted each time it is reached (what is shared counts as often as it is met; a slice's spare places count too). A statement '..UptoSaid' is the law's where the arguments, and the package variables that the reading takes, are together of bulk at most 1048576: NARROWER than '..Said'. Prove '..Said' where nothing that the law and all that it calls make is longer than what came in: it says more and counts as full. Else prove '..UptoSaid'. A law counts once. -/
mutual
def uptoBulk {H : Type} : DataW H → Nat
  | .lit (.string bytes) => bytes.length + 1
  | .lit _ => 1
  | .nil => 1
  | .ptr d => uptoBulk d + 1
  | .slice elems spare => uptoBulkAll elems + uptoBulkAll spare + 1
  | .agg parts => uptoBulkAll parts + 1
  | .iface _ d => uptoBulk d + 1
  | .map entries => uptoBulkEntries entries + 1
  | .held _ => 1
def uptoBulkAll {H : Type} : List (DataW H) → Nat
  | [] => 0
  | d :: r => uptoBulk d + uptoBulkAll r
def uptoBulkEntries {H : Type} : List (Lit × DataW H) → Nat
  | [] => 0
  | x :: r => uptoBulkEntry x + uptoBulkEntries r
def uptoBulkEntry {H : Type} : Lit × DataW H → Nat
  | (.string bytes, d) => bytes.length + uptoBulk d + 1
  | (_, d) => uptoBulk d + 1
 end
def uptoSmall : (H : Type) → List (DataW H) → Bool := fun _ ds => decide (uptoBulkAll ds ≤ 1048576)
def OpenSpec.upto (s : _root_.Go.ChangeSpec) : _root_.Go.OpenSpec := { _root_.Go.OpenSpec.ofChange s with cond := some uptoSmall }

/-- 'customhouselaw36.EscrowMatchesReference', WHERE WHAT IT READS IS OF BULK AT MOST 1048576: true; the input reads as it did. -/
def escrowMatchesReferenceUptoRow : OpenClaim := { program := "ytapabbpdfplpoaa", sum := "5130e1742263b767388e40579d3aae25d8cb79a16b1835fe2d23129fc4048c1e", func := "customhouse/customhouselaw36.EscrowMatchesReference", spec := "escrowMatchesReference", unfollowed := true, recurses := true, plainKeys := false, apart := false, narrowed := true }
def EscrowMatchesReferenceUptoSaid : Prop := escrowMatchesReferenceUptoRow.holds Try.pinned (OpenSpec.upto escrowMatchesReferenceSpec)

/-- 'customhouselaw36.EscrowConserves', WHERE WHAT IT READS IS OF BULK AT MOST 1048576: true; the input reads as it did. -/
def escrowConservesUptoRow : OpenClaim := { program := "ytapabbpdfplpoaa", sum := "5130e1742263b767388e40579d3aae25d8cb79a16b1835fe2d23129fc4048c1e", func := "customhouse/customhouselaw36.EscrowConserves", spec := "escrowConserves", unfollowed := true, recurses := true, plainKeys := false, apart := false, narrowed := true }
def EscrowConservesUptoSaid : Prop := escrowConservesUptoRow.holds Try.pinned (OpenSpec.upto escrowConservesSpec)

/-- 'customhouselaw36.EscrowOnce', WHERE WHAT IT READS IS OF BULK AT MOST 1048576: true; the input reads as it did. -/
def escrowOnceUptoRow : OpenClaim := { program := "ytapabbpdfplpoaa", sum := "5130e1742263b767388e40579d3aae25d8cb79a16b1835fe2d23129fc4048c1e", func := "customhouse/customhouselaw36.EscrowOnce", spec := "escrowOnce", unfollowed := true, recurses := true, plainKeys := false, apart := false, narrowed := true }
def EscrowOnceUptoSaid : Prop := escrowOnceUptoRow.holds Try.pinned (OpenSpec.upto escrowOnceSpec)

/-- 'customhouselaw36.EscrowArrives', WHERE WHAT IT READS IS OF BULK AT MOST 1048576: true; the input reads as it did. -/
def escrowArrivesUptoRow : OpenClaim := { program := "ytapabbpdfplpoaa", sum := "5130e1742263b767388e40579d3aae25d8cb79a16b1835fe2d23129fc4048c1e", func := "customhouse/customhouselaw36.EscrowArrives", spec := "escrowArrives", unfollowed := true, recurses := true, plainKeys := false, apart := false, narrowed := true }
def EscrowArrivesUptoSaid : Prop := escrowArrivesUptoRow.holds Try.pinned (OpenSpec.upto escrowArrivesSpec)

/-- 'customhouselaw36.EscrowRevokes', WHERE WHAT IT READS IS OF BULK AT MOST 1048576: true; the input reads as it did. -/
def escrowRevokesUptoRow : OpenClaim := { program := "ytapabbpdfplpoaa", sum := "5130e1742263b767388e40579d3aae25d8cb79a16b1835fe2d23129fc4048c1e", func := "customhouse/customhouselaw36.EscrowRevokes", spec := "escrowRevokes", unfollowed := true, recurses := true, plainKeys := false, apart := false, narrowed := true }
def EscrowRevokesUptoSaid : Prop := escrowRevokesUptoRow.holds Try.pinned (OpenSpec.upto escrowRevokesSpec)

/-- 'customhouselaw36.EscrowConfirms', WHERE WHAT IT READS IS OF BULK AT MOST 1048576: true; the input reads as it did. -/
def escrowConfirmsUptoRow : OpenClaim := { program := "ytapabbpdfplpoaa", sum := "5130e1742263b767388e40579d3aae25d8cb79a16b1835fe2d23129fc4048c1e", func := "customhouse/customhouselaw36.EscrowConfirms", spec := "escrowConfirms", unfollowed := true, recurses := true, plainKeys := false, apart := false, narrowed := true }
def EscrowConfirmsUptoSaid : Prop := escrowConfirmsUptoRow.holds Try.pinned (OpenSpec.upto escrowConfirmsSpec)

/-- 'customhouselaw36.EscrowOthers', WHERE WHAT IT READS IS OF BULK AT MOST 1048576: true; the input reads as it did. -/
def escrowOthersUptoRow : OpenClaim := { program := "ytapabbpdfplpoaa", sum := "5130e1742263b767388e40579d3aae25d8cb79a16b1835fe2d23129fc4048c1e", func := "customhouse/customhouselaw36.EscrowOthers", spec := "escrowOthers", unfollowed := true, recurses := true, plainKeys := false, apart := false, narrowed := true }
def EscrowOthersUptoSaid : Prop := escrowOthersUptoRow.holds Try.pinned (OpenSpec.upto escrowOthersSpec)

/-- 'customhousetop.TopReplicas', WHERE WHAT IT READS IS OF BULK AT MOST 1048576: true; the input reads as it did. -/
def topReplicasUptoRow : OpenClaim := { program := "ytapabbpdfplpoaa", sum := "5130e1742263b767388e40579d3aae25d8cb79a16b1835fe2d23129fc4048c1e", func := "customhouse/customhousetop.TopReplicas", spec := "topReplicas", unfollowed := true, recurses := true, plainKeys := false, apart := false, narrowed := true }
def TopReplicasUptoSaid : Prop := topReplicasUptoRow.holds Try.pinned (OpenSpec.upto topReplicasSpec)

/-- 'customhouselaw35.LicenceMatchesReference', WHERE WHAT IT READS IS OF BULK AT MOST 1048576: true; the input reads as it did. -/
def licenceMatchesReferenceUptoRow : OpenClaim := { program := "ytapabbpdfplpoaa", sum := "5130e1742263b767388e40579d3aae25d8cb79a16b1835fe2d23129fc4048c1e", func := "customhouse/customhouselaw35.LicenceMatchesReference", spec := "licenceMatchesReference", unfollowed := true, recurses := true, plainKeys := false, apart := false, narrowed := true }
def LicenceMatchesReferenceUptoSaid : Prop := licenceMatchesReferenceUptoRow.holds Try.pinned (OpenSpec.upto licenceMatchesReferenceSpec)

/-- 'customhouselaw35.LicenceNil', WHERE WHAT IT READS IS OF BULK AT MOST 1048576: true; the input reads as it did. -/
def licenceNilUptoRow : OpenClaim := { program := "ytapabbpdfplpoaa", sum := "5130e1742263b767388e40579d3aae25d8cb79a16b1835fe2d23129fc4048c1e", func := "customhouse/customhouselaw35.LicenceNil", spec := "licenceNil", unfollowed := true, recurses := true, plainKeys := false, apart := false, narrowed := true }
def LicenceNilUptoSaid : Prop := licenceNilUptoRow.holds Try.pinned (OpenSpec.upto licenceNilSpec)

/-- 'customhouselaw35.LicenceNeverOverspent', WHERE WHAT IT READS IS OF BULK AT MOST 1048576: true; the input reads as it did. -/
def licenceNeverOverspentUptoRow : OpenClaim := { program := "ytapabbpdfplpoaa", sum := "5130e1742263b767388e40579d3aae25d8cb79a16b1835fe2d23129fc4048c1e", func := "customhouse/customhouselaw35.LicenceNeverOverspent", spec := "licenceNeverOverspent", unfollowed := true, recurses := true, plainKeys := false, apart := false, narrowed := true }
def LicenceNeverOverspentUptoSaid : Prop := licenceNeverOverspentUptoRow.holds Try.pinned (OpenSpec.upto licenceNeverOverspentSpec)

/-- 'customhouselaw35.LicenceRevoked', WHERE WHAT IT READS IS OF BULK AT MOST 1048576: true; the input reads as it did. -/
def licenceRevokedUptoRow : OpenClaim := { program := "ytapabbpdfplpoaa", sum := "5130e1742263b767388e40579d3aae25d8cb79a16b1835fe2d23129fc4048c1e", func := "customhouse/customhouselaw35.LicenceRevoked", spec := "licenceRevoked", unfollowed := true, recurses := true, plainKeys := false, apart := false, narrowed := true }
def LicenceRevokedUptoSaid : Prop := licenceRevokedUptoRow.holds Try.pinned (OpenSpec.upto licenceRevokedSpec)

/-- 'customhouselaw35.LicenceSplits', WHERE WHAT IT READS IS OF BULK AT MOST 1048576: true; the input reads as it did. -/
def licenceSplitsUptoRow : OpenClaim := { program := "ytapabbpdfplpoaa", sum := "5130e1742263b767388e40579d3aae25d8cb79a16b1835fe2d23129fc4048c1e", func := "customhouse/customhouselaw35.LicenceSplits", spec := "licenceSplits", unfollowed := true, recurses := true, plainKeys := false, apart := false, narrowed := true }
def LicenceSplitsUptoSaid : Prop := licenceSplitsUptoRow.holds Try.pinned (OpenSpec.upto licenceSplitsSpec)

/-- 'customhouselaw35.LicenceOthers', WHERE WHAT IT READS IS OF BULK AT MOST 1048576: true; the input reads as it did. -/
def licenceOthersUptoRow : OpenClaim := { program := "ytapabbpdfplpoaa", sum := "5130e1742263b767388e40579d3aae25d8cb79a16b1835fe2d23129fc4048c1e", func := "customhouse/customhouselaw35.LicenceOthers", spec := "licenceOthers", unfollowed := true, recurses := true, plainKeys := false, apart := false, narrowed := true }
def LicenceOthersUptoSaid : Prop := licenceOthersUptoRow.holds Try.pinned (OpenSpec.upto licenceOthersSpec)

end Rows
end Go.Proofs.Ytapabbpdfplpoaa
