/-
  No cell of these rows narrows 'for every input' (looked for: loops, veiled, ifaces, maps, wideKeys, modest, calm, conditions, laid).
  DERIVED. THE GIVEN ROWS OF THIS SEAT. 19 by the template 'for every input the law returns true; each argument reads behind the call as it read before'; 0 by the template 'total and deterministic' (their statements: YtcanekmlabehgaaTotals.lean).
  GIVEN WITH THE SEED: the statements are not yours to turn. If you find one false, say at which input.
  Laid BY PROGRAM, IN A SANDBOX (cutbox-rows.mjs): the forced cells as the released guide's own fill.sh prints them over the translation 51b80157123876d8… (all of the seat's roots in one cut). By AI agents, Wed Nov 11 2026. No macro, syntax, notation, axiom, sorry.
-/
import Derived.Test.YtcanekmlabehgaaChecked
import GoSem.Claim
import GoSem.ClaimJoined
import GoSem.ClaimMapViews
import Derived.JoinedTies
import Derived.KernelRfl
namespace Go.Proofs.Ytcanekmlabehgaa
/- THE CELL 'sum', in the pinned program and in every row, IS THE sha256 OF THE DUMP (.gsa) THAT YtcanekmlabehgaaProg.lean LOADS. Nothing in Lean hashes anything: it is a label: what it is worth is what the hold of that sum in a sandbox is worth. -/
noncomputable def Try.pinned : Pinned := { name := "ytcanekmlabehgaa", sum := "51b80157123876d817b26ce5409d3fb7211e71f4b32a38d0334772241f687466", checked := Try.checked }
namespace Rows
def none {H : Type} : Left H := { results := [], args := [] }

/-- 'plexuslaw46.JournalMatchesReference': WHATEVER THE INPUT: true; the input reads as it did. -/
def journalMatchesReferenceSpec : ChangeSpec := { name := "journalMatchesReference", fn := fun _ => fun
  | [d1, d2, d3] => { results := [.lit (.bool true)], args := [d1, d2, d3] }
  | _ => none }
def journalMatchesReferenceRow : OpenClaim := { program := "ytcanekmlabehgaa", sum := "51b80157123876d817b26ce5409d3fb7211e71f4b32a38d0334772241f687466", func := "plexus/plexuslaw46.JournalMatchesReference", spec := "journalMatchesReference", unfollowed := true, recurses := true, apart := false }
def JournalMatchesReferenceSaid : Prop := journalMatchesReferenceRow.holds Try.pinned (OpenSpec.ofChange journalMatchesReferenceSpec)

/-- ITS FALSE NEIGHBOUR: 'it returns false'. Refute it at one input. -/
def journalMatchesReferenceWrong : ChangeSpec := { name := "journalMatchesReference", fn := fun _ => fun
  | [d1, d2, d3] => { results := [.lit (.bool false)], args := [d1, d2, d3] }
  | _ => none }
def JournalMatchesReferenceWrongFalsely : Prop := journalMatchesReferenceRow.holds Try.pinned (OpenSpec.ofChange journalMatchesReferenceWrong)

/-- 'plexuslaw46.JournalRecords': WHATEVER THE INPUT: true; the input reads as it did. -/
def journalRecordsSpec : ChangeSpec := { name := "journalRecords", fn := fun _ => fun
  | [d] => { results := [.lit (.bool true)], args := [d] }
  | _ => none }
def journalRecordsRow : OpenClaim := { program := "ytcanekmlabehgaa", sum := "51b80157123876d817b26ce5409d3fb7211e71f4b32a38d0334772241f687466", func := "plexus/plexuslaw46.JournalRecords", spec := "journalRecords", unfollowed := true, recurses := true, apart := false }
def JournalRecordsSaid : Prop := journalRecordsRow.holds Try.pinned (OpenSpec.ofChange journalRecordsSpec)

/-- ITS FALSE NEIGHBOUR: 'it returns false'. Refute it at one input. -/
def journalRecordsWrong : ChangeSpec := { name := "journalRecords", fn := fun _ => fun
  | [d] => { results := [.lit (.bool false)], args := [d] }
  | _ => none }
def JournalRecordsWrongFalsely : Prop := journalRecordsRow.holds Try.pinned (OpenSpec.ofChange journalRecordsWrong)

/-- 'plexuslaw46.JournalLosses': WHATEVER THE INPUT: true; the input reads as it did. -/
def journalLossesSpec : ChangeSpec := { name := "journalLosses", fn := fun _ => fun
  | [d1, d2] => { results := [.lit (.bool true)], args := [d1, d2] }
  | _ => none }
def journalLossesRow : OpenClaim := { program := "ytcanekmlabehgaa", sum := "51b80157123876d817b26ce5409d3fb7211e71f4b32a38d0334772241f687466", func := "plexus/plexuslaw46.JournalLosses", spec := "journalLosses", unfollowed := true, recurses := true, apart := false }
def JournalLossesSaid : Prop := journalLossesRow.holds Try.pinned (OpenSpec.ofChange journalLossesSpec)

/-- ITS FALSE NEIGHBOUR: 'it returns false'. Refute it at one input. -/
def journalLossesWrong : ChangeSpec := { name := "journalLosses", fn := fun _ => fun
  | [d1, d2] => { results := [.lit (.bool false)], args := [d1, d2] }
  | _ => none }
def JournalLossesWrongFalsely : Prop := journalLossesRow.holds Try.pinned (OpenSpec.ofChange journalLossesWrong)

/-- 'plexuslaw46.JournalGoesOn': WHATEVER THE INPUT: true; the input reads as it did. -/
def journalGoesOnSpec : ChangeSpec := { name := "journalGoesOn", fn := fun _ => fun
  | [d1, d2, d3] => { results := [.lit (.bool true)], args := [d1, d2, d3] }
  | _ => none }
def journalGoesOnRow : OpenClaim := { program := "ytcanekmlabehgaa", sum := "51b80157123876d817b26ce5409d3fb7211e71f4b32a38d0334772241f687466", func := "plexus/plexuslaw46.JournalGoesOn", spec := "journalGoesOn", unfollowed := true, recurses := true, apart := false }
def JournalGoesOnSaid : Prop := journalGoesOnRow.holds Try.pinned (OpenSpec.ofChange journalGoesOnSpec)

/-- ITS FALSE NEIGHBOUR: 'it returns false'. Refute it at one input. -/
def journalGoesOnWrong : ChangeSpec := { name := "journalGoesOn", fn := fun _ => fun
  | [d1, d2, d3] => { results := [.lit (.bool false)], args := [d1, d2, d3] }
  | _ => none }
def JournalGoesOnWrongFalsely : Prop := journalGoesOnRow.holds Try.pinned (OpenSpec.ofChange journalGoesOnWrong)

/-- 'plexuslaw46.JournalChanges': WHATEVER THE INPUT: true; the input reads as it did. -/
def journalChangesSpec : ChangeSpec := { name := "journalChanges", fn := fun _ => fun
  | [d1, d2, d3] => { results := [.lit (.bool true)], args := [d1, d2, d3] }
  | _ => none }
def journalChangesRow : OpenClaim := { program := "ytcanekmlabehgaa", sum := "51b80157123876d817b26ce5409d3fb7211e71f4b32a38d0334772241f687466", func := "plexus/plexuslaw46.JournalChanges", spec := "journalChanges", unfollowed := true, recurses := true, apart := false }
def JournalChangesSaid : Prop := journalChangesRow.holds Try.pinned (OpenSpec.ofChange journalChangesSpec)

/-- ITS FALSE NEIGHBOUR: 'it returns false'. Refute it at one input. -/
def journalChangesWrong : ChangeSpec := { name := "journalChanges", fn := fun _ => fun
  | [d1, d2, d3] => { results := [.lit (.bool false)], args := [d1, d2, d3] }
  | _ => none }
def JournalChangesWrongFalsely : Prop := journalChangesRow.holds Try.pinned (OpenSpec.ofChange journalChangesWrong)

/-- 'plexuslaw46.JournalForm': WHATEVER THE INPUT: true; the input reads as it did. -/
def journalFormSpec : ChangeSpec := { name := "journalForm", fn := fun _ => fun
  | [d1, d2, d3] => { results := [.lit (.bool true)], args := [d1, d2, d3] }
  | _ => none }
def journalFormRow : OpenClaim := { program := "ytcanekmlabehgaa", sum := "51b80157123876d817b26ce5409d3fb7211e71f4b32a38d0334772241f687466", func := "plexus/plexuslaw46.JournalForm", spec := "journalForm", unfollowed := true, recurses := true, apart := false }
def JournalFormSaid : Prop := journalFormRow.holds Try.pinned (OpenSpec.ofChange journalFormSpec)

/-- ITS FALSE NEIGHBOUR: 'it returns false'. Refute it at one input. -/
def journalFormWrong : ChangeSpec := { name := "journalForm", fn := fun _ => fun
  | [d1, d2, d3] => { results := [.lit (.bool false)], args := [d1, d2, d3] }
  | _ => none }
def JournalFormWrongFalsely : Prop := journalFormRow.holds Try.pinned (OpenSpec.ofChange journalFormWrong)

/-- 'plexuslaw46.JournalRefuses': WHATEVER THE INPUT: true; the input reads as it did. -/
def journalRefusesSpec : ChangeSpec := { name := "journalRefuses", fn := fun _ => fun
  | [d1, d2, d3] => { results := [.lit (.bool true)], args := [d1, d2, d3] }
  | _ => none }
def journalRefusesRow : OpenClaim := { program := "ytcanekmlabehgaa", sum := "51b80157123876d817b26ce5409d3fb7211e71f4b32a38d0334772241f687466", func := "plexus/plexuslaw46.JournalRefuses", spec := "journalRefuses", unfollowed := true, recurses := true, apart := false }
def JournalRefusesSaid : Prop := journalRefusesRow.holds Try.pinned (OpenSpec.ofChange journalRefusesSpec)

/-- ITS FALSE NEIGHBOUR: 'it returns false'. Refute it at one input. -/
def journalRefusesWrong : ChangeSpec := { name := "journalRefuses", fn := fun _ => fun
  | [d1, d2, d3] => { results := [.lit (.bool false)], args := [d1, d2, d3] }
  | _ => none }
def JournalRefusesWrongFalsely : Prop := journalRefusesRow.holds Try.pinned (OpenSpec.ofChange journalRefusesWrong)

/-- 'plexuslaw23.BoundMatchesReference': WHATEVER THE INPUT: true; the input reads as it did. -/
def boundMatchesReferenceSpec : ChangeSpec := { name := "boundMatchesReference", fn := fun _ => fun
  | [d1, d2, d3] => { results := [.lit (.bool true)], args := [d1, d2, d3] }
  | _ => none }
def boundMatchesReferenceRow : OpenClaim := { program := "ytcanekmlabehgaa", sum := "51b80157123876d817b26ce5409d3fb7211e71f4b32a38d0334772241f687466", func := "plexus/plexuslaw23.BoundMatchesReference", spec := "boundMatchesReference", unfollowed := true, recurses := true, apart := false }
def BoundMatchesReferenceSaid : Prop := boundMatchesReferenceRow.holds Try.pinned (OpenSpec.ofChange boundMatchesReferenceSpec)

/-- ITS FALSE NEIGHBOUR: 'it returns false'. Refute it at one input. -/
def boundMatchesReferenceWrong : ChangeSpec := { name := "boundMatchesReference", fn := fun _ => fun
  | [d1, d2, d3] => { results := [.lit (.bool false)], args := [d1, d2, d3] }
  | _ => none }
def BoundMatchesReferenceWrongFalsely : Prop := boundMatchesReferenceRow.holds Try.pinned (OpenSpec.ofChange boundMatchesReferenceWrong)

/-- 'plexuslaw23.BoundWords': WHATEVER THE INPUT: true; the input reads as it did. -/
def boundWordsSpec : ChangeSpec := { name := "boundWords", fn := fun _ => fun
  | [d1, d2, d3] => { results := [.lit (.bool true)], args := [d1, d2, d3] }
  | _ => none }
def boundWordsRow : OpenClaim := { program := "ytcanekmlabehgaa", sum := "51b80157123876d817b26ce5409d3fb7211e71f4b32a38d0334772241f687466", func := "plexus/plexuslaw23.BoundWords", spec := "boundWords", unfollowed := true, recurses := true, apart := false }
def BoundWordsSaid : Prop := boundWordsRow.holds Try.pinned (OpenSpec.ofChange boundWordsSpec)

/-- ITS FALSE NEIGHBOUR: 'it returns false'. Refute it at one input. -/
def boundWordsWrong : ChangeSpec := { name := "boundWords", fn := fun _ => fun
  | [d1, d2, d3] => { results := [.lit (.bool false)], args := [d1, d2, d3] }
  | _ => none }
def BoundWordsWrongFalsely : Prop := boundWordsRow.holds Try.pinned (OpenSpec.ofChange boundWordsWrong)

/-- 'plexuslaw23.BoundLinear': WHATEVER THE INPUT: true; the input reads as it did. -/
def boundLinearSpec : ChangeSpec := { name := "boundLinear", fn := fun _ => fun
  | [d1, d2] => { results := [.lit (.bool true)], args := [d1, d2] }
  | _ => none }
def boundLinearRow : OpenClaim := { program := "ytcanekmlabehgaa", sum := "51b80157123876d817b26ce5409d3fb7211e71f4b32a38d0334772241f687466", func := "plexus/plexuslaw23.BoundLinear", spec := "boundLinear", unfollowed := true, recurses := true, apart := false }
def BoundLinearSaid : Prop := boundLinearRow.holds Try.pinned (OpenSpec.ofChange boundLinearSpec)

/-- ITS FALSE NEIGHBOUR: 'it returns false'. Refute it at one input. -/
def boundLinearWrong : ChangeSpec := { name := "boundLinear", fn := fun _ => fun
  | [d1, d2] => { results := [.lit (.bool false)], args := [d1, d2] }
  | _ => none }
def BoundLinearWrongFalsely : Prop := boundLinearRow.holds Try.pinned (OpenSpec.ofChange boundLinearWrong)

/-- 'plexuslaw23.BoundLexicode': WHATEVER THE INPUT: true; the input reads as it did. -/
def boundLexicodeSpec : ChangeSpec := { name := "boundLexicode", fn := fun _ => fun
  | [d1, d2] => { results := [.lit (.bool true)], args := [d1, d2] }
  | _ => none }
def boundLexicodeRow : OpenClaim := { program := "ytcanekmlabehgaa", sum := "51b80157123876d817b26ce5409d3fb7211e71f4b32a38d0334772241f687466", func := "plexus/plexuslaw23.BoundLexicode", spec := "boundLexicode", unfollowed := true, recurses := true, apart := false }
def BoundLexicodeSaid : Prop := boundLexicodeRow.holds Try.pinned (OpenSpec.ofChange boundLexicodeSpec)

/-- ITS FALSE NEIGHBOUR: 'it returns false'. Refute it at one input. -/
def boundLexicodeWrong : ChangeSpec := { name := "boundLexicode", fn := fun _ => fun
  | [d1, d2] => { results := [.lit (.bool false)], args := [d1, d2] }
  | _ => none }
def BoundLexicodeWrongFalsely : Prop := boundLexicodeRow.holds Try.pinned (OpenSpec.ofChange boundLexicodeWrong)

/-- 'plexuslaw23.BoundRelations': WHATEVER THE INPUT: true; the input reads as it did. -/
def boundRelationsSpec : ChangeSpec := { name := "boundRelations", fn := fun _ => fun
  | [d1, d2, d3] => { results := [.lit (.bool true)], args := [d1, d2, d3] }
  | _ => none }
def boundRelationsRow : OpenClaim := { program := "ytcanekmlabehgaa", sum := "51b80157123876d817b26ce5409d3fb7211e71f4b32a38d0334772241f687466", func := "plexus/plexuslaw23.BoundRelations", spec := "boundRelations", unfollowed := true, recurses := true, apart := false }
def BoundRelationsSaid : Prop := boundRelationsRow.holds Try.pinned (OpenSpec.ofChange boundRelationsSpec)

/-- ITS FALSE NEIGHBOUR: 'it returns false'. Refute it at one input. -/
def boundRelationsWrong : ChangeSpec := { name := "boundRelations", fn := fun _ => fun
  | [d1, d2, d3] => { results := [.lit (.bool false)], args := [d1, d2, d3] }
  | _ => none }
def BoundRelationsWrongFalsely : Prop := boundRelationsRow.holds Try.pinned (OpenSpec.ofChange boundRelationsWrong)

/-- 'plexuslaw23.BoundTight': WHATEVER THE INPUT: true; the input reads as it did. -/
def boundTightSpec : ChangeSpec := { name := "boundTight", fn := fun _ => fun
  | [d1, d2] => { results := [.lit (.bool true)], args := [d1, d2] }
  | _ => none }
def boundTightRow : OpenClaim := { program := "ytcanekmlabehgaa", sum := "51b80157123876d817b26ce5409d3fb7211e71f4b32a38d0334772241f687466", func := "plexus/plexuslaw23.BoundTight", spec := "boundTight", unfollowed := true, recurses := true, apart := false }
def BoundTightSaid : Prop := boundTightRow.holds Try.pinned (OpenSpec.ofChange boundTightSpec)

/-- ITS FALSE NEIGHBOUR: 'it returns false'. Refute it at one input. -/
def boundTightWrong : ChangeSpec := { name := "boundTight", fn := fun _ => fun
  | [d1, d2] => { results := [.lit (.bool false)], args := [d1, d2] }
  | _ => none }
def BoundTightWrongFalsely : Prop := boundTightRow.holds Try.pinned (OpenSpec.ofChange boundTightWrong)

/-- 'plexuslaw03.SealSteps': WHATEVER THE INPUT: true; the input reads as it did. -/
def sealStepsSpec : ChangeSpec := { name := "sealSteps", fn := fun _ => fun
  | [d1, d2, d3] => { results := [.lit (.bool true)], args := [d1, d2, d3] }
  | _ => none }
def sealStepsRow : OpenClaim := { program := "ytcanekmlabehgaa", sum := "51b80157123876d817b26ce5409d3fb7211e71f4b32a38d0334772241f687466", func := "plexus/plexuslaw03.SealSteps", spec := "sealSteps", unfollowed := true, recurses := true, apart := false }
def SealStepsSaid : Prop := sealStepsRow.holds Try.pinned (OpenSpec.ofChange sealStepsSpec)

/-- ITS FALSE NEIGHBOUR: 'it returns false'. Refute it at one input. -/
def sealStepsWrong : ChangeSpec := { name := "sealSteps", fn := fun _ => fun
  | [d1, d2, d3] => { results := [.lit (.bool false)], args := [d1, d2, d3] }
  | _ => none }
def SealStepsWrongFalsely : Prop := sealStepsRow.holds Try.pinned (OpenSpec.ofChange sealStepsWrong)

/-- 'plexuslaw03.SealOpens': WHATEVER THE INPUT: true; the input reads as it did. -/
def sealOpensSpec : ChangeSpec := { name := "sealOpens", fn := fun _ => fun
  | [d1, d2, d3] => { results := [.lit (.bool true)], args := [d1, d2, d3] }
  | _ => none }
def sealOpensRow : OpenClaim := { program := "ytcanekmlabehgaa", sum := "51b80157123876d817b26ce5409d3fb7211e71f4b32a38d0334772241f687466", func := "plexus/plexuslaw03.SealOpens", spec := "sealOpens", unfollowed := true, recurses := true, apart := false }
def SealOpensSaid : Prop := sealOpensRow.holds Try.pinned (OpenSpec.ofChange sealOpensSpec)

/-- ITS FALSE NEIGHBOUR: 'it returns false'. Refute it at one input. -/
def sealOpensWrong : ChangeSpec := { name := "sealOpens", fn := fun _ => fun
  | [d1, d2, d3] => { results := [.lit (.bool false)], args := [d1, d2, d3] }
  | _ => none }
def SealOpensWrongFalsely : Prop := sealOpensRow.holds Try.pinned (OpenSpec.ofChange sealOpensWrong)

/-- 'plexuslaw03.SealChanges': WHATEVER THE INPUT: true; the input reads as it did. -/
def sealChangesSpec : ChangeSpec := { name := "sealChanges", fn := fun _ => fun
  | [d1, d2, d3] => { results := [.lit (.bool true)], args := [d1, d2, d3] }
  | _ => none }
def sealChangesRow : OpenClaim := { program := "ytcanekmlabehgaa", sum := "51b80157123876d817b26ce5409d3fb7211e71f4b32a38d0334772241f687466", func := "plexus/plexuslaw03.SealChanges", spec := "sealChanges", unfollowed := true, recurses := true, apart := false }
def SealChangesSaid : Prop := sealChangesRow.holds Try.pinned (OpenSpec.ofChange sealChangesSpec)

/-- ITS FALSE NEIGHBOUR: 'it returns false'. Refute it at one input. -/
def sealChangesWrong : ChangeSpec := { name := "sealChanges", fn := fun _ => fun
  | [d1, d2, d3] => { results := [.lit (.bool false)], args := [d1, d2, d3] }
  | _ => none }
def SealChangesWrongFalsely : Prop := sealChangesRow.holds Try.pinned (OpenSpec.ofChange sealChangesWrong)

/-- 'plexuslaw03.SealBinds': WHATEVER THE INPUT: true; the input reads as it did. -/
def sealBindsSpec : ChangeSpec := { name := "sealBinds", fn := fun _ => fun
  | [d1, d2, d3] => { results := [.lit (.bool true)], args := [d1, d2, d3] }
  | _ => none }
def sealBindsRow : OpenClaim := { program := "ytcanekmlabehgaa", sum := "51b80157123876d817b26ce5409d3fb7211e71f4b32a38d0334772241f687466", func := "plexus/plexuslaw03.SealBinds", spec := "sealBinds", unfollowed := true, recurses := true, apart := false }
def SealBindsSaid : Prop := sealBindsRow.holds Try.pinned (OpenSpec.ofChange sealBindsSpec)

/-- ITS FALSE NEIGHBOUR: 'it returns false'. Refute it at one input. -/
def sealBindsWrong : ChangeSpec := { name := "sealBinds", fn := fun _ => fun
  | [d1, d2, d3] => { results := [.lit (.bool false)], args := [d1, d2, d3] }
  | _ => none }
def SealBindsWrongFalsely : Prop := sealBindsRow.holds Try.pinned (OpenSpec.ofChange sealBindsWrong)

/-- 'plexuslaw03.SealMatchesReference': WHATEVER THE INPUT: true; the input reads as it did. -/
def sealMatchesReferenceSpec : ChangeSpec := { name := "sealMatchesReference", fn := fun _ => fun
  | [d1, d2, d3] => { results := [.lit (.bool true)], args := [d1, d2, d3] }
  | _ => none }
def sealMatchesReferenceRow : OpenClaim := { program := "ytcanekmlabehgaa", sum := "51b80157123876d817b26ce5409d3fb7211e71f4b32a38d0334772241f687466", func := "plexus/plexuslaw03.SealMatchesReference", spec := "sealMatchesReference", unfollowed := true, recurses := true, apart := false }
def SealMatchesReferenceSaid : Prop := sealMatchesReferenceRow.holds Try.pinned (OpenSpec.ofChange sealMatchesReferenceSpec)

/-- ITS FALSE NEIGHBOUR: 'it returns false'. Refute it at one input. -/
def sealMatchesReferenceWrong : ChangeSpec := { name := "sealMatchesReference", fn := fun _ => fun
  | [d1, d2, d3] => { results := [.lit (.bool false)], args := [d1, d2, d3] }
  | _ => none }
def SealMatchesReferenceWrongFalsely : Prop := sealMatchesReferenceRow.holds Try.pinned (OpenSpec.ofChange sealMatchesReferenceWrong)

/-- 'plexuslaw03.SealOneChange': WHATEVER THE INPUT: true; the input reads as it did. -/
def sealOneChangeSpec : ChangeSpec := { name := "sealOneChange", fn := fun _ => fun
  | [d1, d2, d3] => { results := [.lit (.bool true)], args := [d1, d2, d3] }
  | _ => none }
def sealOneChangeRow : OpenClaim := { program := "ytcanekmlabehgaa", sum := "51b80157123876d817b26ce5409d3fb7211e71f4b32a38d0334772241f687466", func := "plexus/plexuslaw03.SealOneChange", spec := "sealOneChange", unfollowed := true, recurses := true, apart := false }
def SealOneChangeSaid : Prop := sealOneChangeRow.holds Try.pinned (OpenSpec.ofChange sealOneChangeSpec)

/-- ITS FALSE NEIGHBOUR: 'it returns false'. Refute it at one input. -/
def sealOneChangeWrong : ChangeSpec := { name := "sealOneChange", fn := fun _ => fun
  | [d1, d2, d3] => { results := [.lit (.bool false)], args := [d1, d2, d3] }
  | _ => none }
def SealOneChangeWrongFalsely : Prop := sealOneChangeRow.holds Try.pinned (OpenSpec.ofChange sealOneChangeWrong)

/- THE SECOND FORM. 'bulk': how many values and letters a reading holds, each counted each time it is reached (what is shared counts as often as it is met; a slice's spare places count too). A statement '..UptoSaid' is the law's where the arguments, and the package variables that the reading takes, are together of bulk at most 1048576: NARROWER than '..Said'. Prove '..Said' where nothing that the law and all that it calls make is longer than what came in: it says more and counts as full. Else prove '..UptoSaid'. A law counts once. -/
mutual
def uptoBulk {H : Type} : DataW H → Nat
  | .lit (.string bytes) => bytes.length + 1
  | .lit _ => 1
  | .nil => 1
  | .ptr d => uptoBulk d + 1
  | .slice elems spare => uptoBulkAll elems + uptoBulkAll spare + 1
  | .agg parts => uptoBulkAll parts + 1
  | .iface _ d => uptoBulk d + 1
  | .map entries => uptoBulkEntries entries + 1
  | .held _ => 1
def uptoBulkAll {H : Type} : List (DataW H) → Nat
  | [] => 0
  | d :: r => uptoBulk d + uptoBulkAll r
def uptoBulkEntries {H : Type} : List (Lit × DataW H) → Nat
  | [] => 0
  | x :: r => uptoBulkEntry x + uptoBulkEntries r
def uptoBulkEntry {H : Type} : Lit × DataW H → Nat
  | (.string bytes, d) => bytes.length + uptoBulk d + 1
  | (_, d) => uptoBulk d + 1
 end
def uptoSmall : (H : Type) → List (DataW H) → Bool := fun _ ds => decide (uptoBulkAll ds ≤ 1048576)
def OpenSpec.upto (s : _root_.Go.ChangeSpec) : _root_.Go.OpenSpec := { _root_.Go.OpenSpec.ofChange s with cond := some uptoSmall }

/-- 'plexuslaw46.JournalMatchesReference', WHERE WHAT IT READS IS OF BULK AT MOST 1048576: true; the input reads as it did. -/
def journalMatchesReferenceUptoRow : OpenClaim := { program := "ytcanekmlabehgaa", sum := "51b80157123876d817b26ce5409d3fb7211e71f4b32a38d0334772241f687466", func := "plexus/plexuslaw46.JournalMatchesReference", spec := "journalMatchesReference", unfollowed := true, recurses := true, apart := false, narrowed := true }
def JournalMatchesReferenceUptoSaid : Prop := journalMatchesReferenceUptoRow.holds Try.pinned (OpenSpec.upto journalMatchesReferenceSpec)

/-- 'plexuslaw46.JournalRecords', WHERE WHAT IT READS IS OF BULK AT MOST 1048576: true; the input reads as it did. -/
def journalRecordsUptoRow : OpenClaim := { program := "ytcanekmlabehgaa", sum := "51b80157123876d817b26ce5409d3fb7211e71f4b32a38d0334772241f687466", func := "plexus/plexuslaw46.JournalRecords", spec := "journalRecords", unfollowed := true, recurses := true, apart := false, narrowed := true }
def JournalRecordsUptoSaid : Prop := journalRecordsUptoRow.holds Try.pinned (OpenSpec.upto journalRecordsSpec)

/-- 'plexuslaw46.JournalLosses', WHERE WHAT IT READS IS OF BULK AT MOST 1048576: true; the input reads as it did. -/
def journalLossesUptoRow : OpenClaim := { program := "ytcanekmlabehgaa", sum := "51b80157123876d817b26ce5409d3fb7211e71f4b32a38d0334772241f687466", func := "plexus/plexuslaw46.JournalLosses", spec := "journalLosses", unfollowed := true, recurses := true, apart := false, narrowed := true }
def JournalLossesUptoSaid : Prop := journalLossesUptoRow.holds Try.pinned (OpenSpec.upto journalLossesSpec)

/-- 'plexuslaw46.JournalGoesOn', WHERE WHAT IT READS IS OF BULK AT MOST 1048576: true; the input reads as it did. -/
def journalGoesOnUptoRow : OpenClaim := { program := "ytcanekmlabehgaa", sum := "51b80157123876d817b26ce5409d3fb7211e71f4b32a38d0334772241f687466", func := "plexus/plexuslaw46.JournalGoesOn", spec := "journalGoesOn", unfollowed := true, recurses := true, apart := false, narrowed := true }
def JournalGoesOnUptoSaid : Prop := journalGoesOnUptoRow.holds Try.pinned (OpenSpec.upto journalGoesOnSpec)

/-- 'plexuslaw46.JournalChanges', WHERE WHAT IT READS IS OF BULK AT MOST 1048576: true; the input reads as it did. -/
def journalChangesUptoRow : OpenClaim := { program := "ytcanekmlabehgaa", sum := "51b80157123876d817b26ce5409d3fb7211e71f4b32a38d0334772241f687466", func := "plexus/plexuslaw46.JournalChanges", spec := "journalChanges", unfollowed := true, recurses := true, apart := false, narrowed := true }
def JournalChangesUptoSaid : Prop := journalChangesUptoRow.holds Try.pinned (OpenSpec.upto journalChangesSpec)

/-- 'plexuslaw46.JournalForm', WHERE WHAT IT READS IS OF BULK AT MOST 1048576: true; the input reads as it did. -/
def journalFormUptoRow : OpenClaim := { program := "ytcanekmlabehgaa", sum := "51b80157123876d817b26ce5409d3fb7211e71f4b32a38d0334772241f687466", func := "plexus/plexuslaw46.JournalForm", spec := "journalForm", unfollowed := true, recurses := true, apart := false, narrowed := true }
def JournalFormUptoSaid : Prop := journalFormUptoRow.holds Try.pinned (OpenSpec.upto journalFormSpec)

/-- 'plexuslaw46.JournalRefuses', WHERE WHAT IT READS IS OF BULK AT MOST 1048576: true; the input reads as it did. -/
def journalRefusesUptoRow : OpenClaim := { program := "ytcanekmlabehgaa", sum := "51b80157123876d817b26ce5409d3fb7211e71f4b32a38d0334772241f687466", func := "plexus/plexuslaw46.JournalRefuses", spec := "journalRefuses", unfollowed := true, recurses := true, apart := false, narrowed := true }
def JournalRefusesUptoSaid : Prop := journalRefusesUptoRow.holds Try.pinned (OpenSpec.upto journalRefusesSpec)

/-- 'plexuslaw23.BoundMatchesReference', WHERE WHAT IT READS IS OF BULK AT MOST 1048576: true; the input reads as it did. -/
def boundMatchesReferenceUptoRow : OpenClaim := { program := "ytcanekmlabehgaa", sum := "51b80157123876d817b26ce5409d3fb7211e71f4b32a38d0334772241f687466", func := "plexus/plexuslaw23.BoundMatchesReference", spec := "boundMatchesReference", unfollowed := true, recurses := true, apart := false, narrowed := true }
def BoundMatchesReferenceUptoSaid : Prop := boundMatchesReferenceUptoRow.holds Try.pinned (OpenSpec.upto boundMatchesReferenceSpec)

/-- 'plexuslaw23.BoundWords', WHERE WHAT IT READS IS OF BULK AT MOST 1048576: true; the input reads as it did. -/
def boundWordsUptoRow : OpenClaim := { program := "ytcanekmlabehgaa", sum := "51b80157123876d817b26ce5409d3fb7211e71f4b32a38d0334772241f687466", func := "plexus/plexuslaw23.BoundWords", spec := "boundWords", unfollowed := true, recurses := true, apart := false, narrowed := true }
def BoundWordsUptoSaid : Prop := boundWordsUptoRow.holds Try.pinned (OpenSpec.upto boundWordsSpec)

/-- 'plexuslaw23.BoundLinear', WHERE WHAT IT READS IS OF BULK AT MOST 1048576: true; the input reads as it did. -/
def boundLinearUptoRow : OpenClaim := { program := "ytcanekmlabehgaa", sum := "51b80157123876d817b26ce5409d3fb7211e71f4b32a38d0334772241f687466", func := "plexus/plexuslaw23.BoundLinear", spec := "boundLinear", unfollowed := true, recurses := true, apart := false, narrowed := true }
def BoundLinearUptoSaid : Prop := boundLinearUptoRow.holds Try.pinned (OpenSpec.upto boundLinearSpec)

/-- 'plexuslaw23.BoundLexicode', WHERE WHAT IT READS IS OF BULK AT MOST 1048576: true; the input reads as it did. -/
def boundLexicodeUptoRow : OpenClaim := { program := "ytcanekmlabehgaa", sum := "51b80157123876d817b26ce5409d3fb7211e71f4b32a38d0334772241f687466", func := "plexus/plexuslaw23.BoundLexicode", spec := "boundLexicode", unfollowed := true, recurses := true, apart := false, narrowed := true }
def BoundLexicodeUptoSaid : Prop := boundLexicodeUptoRow.holds Try.pinned (OpenSpec.upto boundLexicodeSpec)

/-- 'plexuslaw23.BoundRelations', WHERE WHAT IT READS IS OF BULK AT MOST 1048576: true; the input reads as it did. -/
def boundRelationsUptoRow : OpenClaim := { program := "ytcanekmlabehgaa", sum := "51b80157123876d817b26ce5409d3fb7211e71f4b32a38d0334772241f687466", func := "plexus/plexuslaw23.BoundRelations", spec := "boundRelations", unfollowed := true, recurses := true, apart := false, narrowed := true }
def BoundRelationsUptoSaid : Prop := boundRelationsUptoRow.holds Try.pinned (OpenSpec.upto boundRelationsSpec)

/-- 'plexuslaw23.BoundTight', WHERE WHAT IT READS IS OF BULK AT MOST 1048576: true; the input reads as it did. -/
def boundTightUptoRow : OpenClaim := { program := "ytcanekmlabehgaa", sum := "51b80157123876d817b26ce5409d3fb7211e71f4b32a38d0334772241f687466", func := "plexus/plexuslaw23.BoundTight", spec := "boundTight", unfollowed := true, recurses := true, apart := false, narrowed := true }
def BoundTightUptoSaid : Prop := boundTightUptoRow.holds Try.pinned (OpenSpec.upto boundTightSpec)

/-- 'plexuslaw03.SealSteps', WHERE WHAT IT READS IS OF BULK AT MOST 1048576: true; the input reads as it did. -/
def sealStepsUptoRow : OpenClaim := { program := "ytcanekmlabehgaa", sum := "51b80157123876d817b26ce5409d3fb7211e71f4b32a38d0334772241f687466", func := "plexus/plexuslaw03.SealSteps", spec := "sealSteps", unfollowed := true, recurses := true, apart := false, narrowed := true }
def SealStepsUptoSaid : Prop := sealStepsUptoRow.holds Try.pinned (OpenSpec.upto sealStepsSpec)

/-- 'plexuslaw03.SealOpens', WHERE WHAT IT READS IS OF BULK AT MOST 1048576: true; the input reads as it did. -/
def sealOpensUptoRow : OpenClaim := { program := "ytcanekmlabehgaa", sum := "51b80157123876d817b26ce5409d3fb7211e71f4b32a38d0334772241f687466", func := "plexus/plexuslaw03.SealOpens", spec := "sealOpens", unfollowed := true, recurses := true, apart := false, narrowed := true }
def SealOpensUptoSaid : Prop := sealOpensUptoRow.holds Try.pinned (OpenSpec.upto sealOpensSpec)

/-- 'plexuslaw03.SealChanges', WHERE WHAT IT READS IS OF BULK AT MOST 1048576: true; the input reads as it did. -/
def sealChangesUptoRow : OpenClaim := { program := "ytcanekmlabehgaa", sum := "51b80157123876d817b26ce5409d3fb7211e71f4b32a38d0334772241f687466", func := "plexus/plexuslaw03.SealChanges", spec := "sealChanges", unfollowed := true, recurses := true, apart := false, narrowed := true }
def SealChangesUptoSaid : Prop := sealChangesUptoRow.holds Try.pinned (OpenSpec.upto sealChangesSpec)

/-- 'plexuslaw03.SealBinds', WHERE WHAT IT READS IS OF BULK AT MOST 1048576: true; the input reads as it did. -/
def sealBindsUptoRow : OpenClaim := { program := "ytcanekmlabehgaa", sum := "51b80157123876d817b26ce5409d3fb7211e71f4b32a38d0334772241f687466", func := "plexus/plexuslaw03.SealBinds", spec := "sealBinds", unfollowed := true, recurses := true, apart := false, narrowed := true }
def SealBindsUptoSaid : Prop := sealBindsUptoRow.holds Try.pinned (OpenSpec.upto sealBindsSpec)

/-- 'plexuslaw03.SealMatchesReference', WHERE WHAT IT READS IS OF BULK AT MOST 1048576: true; the input reads as it did. -/
def sealMatchesReferenceUptoRow : OpenClaim := { program := "ytcanekmlabehgaa", sum := "51b80157123876d817b26ce5409d3fb7211e71f4b32a38d0334772241f687466", func := "plexus/plexuslaw03.SealMatchesReference", spec := "sealMatchesReference", unfollowed := true, recurses := true, apart := false, narrowed := true }
def SealMatchesReferenceUptoSaid : Prop := sealMatchesReferenceUptoRow.holds Try.pinned (OpenSpec.upto sealMatchesReferenceSpec)

/-- 'plexuslaw03.SealOneChange', WHERE WHAT IT READS IS OF BULK AT MOST 1048576: true; the input reads as it did. -/
def sealOneChangeUptoRow : OpenClaim := { program := "ytcanekmlabehgaa", sum := "51b80157123876d817b26ce5409d3fb7211e71f4b32a38d0334772241f687466", func := "plexus/plexuslaw03.SealOneChange", spec := "sealOneChange", unfollowed := true, recurses := true, apart := false, narrowed := true }
def SealOneChangeUptoSaid : Prop := sealOneChangeUptoRow.holds Try.pinned (OpenSpec.upto sealOneChangeSpec)

end Rows
end Go.Proofs.Ytcanekmlabehgaa
