/-
  No cell of these rows narrows 'for every input' (looked for: loops, veiled, ifaces, maps, wideKeys, modest, calm, conditions, laid).
  DERIVED. THE GIVEN ROWS OF THIS SEAT. 6 by the template 'for every input the law returns true; each argument reads behind the call as it read before'; 0 by the template 'total and deterministic' (their statements: YtbkjdfemamehcaaTotals.lean).
  GIVEN WITH THE SEED: the statements are not yours to turn. If you find one false, say at which input.
  Laid BY PROGRAM, IN A SANDBOX (cutbox-rows.mjs): the forced cells as the released guide's own fill.sh prints them over the translation 1de81e43d4b721db… (all of the seat's roots in one cut). By AI agents, Wed Nov 11 2026. No macro, syntax, notation, axiom, sorry.
-/
import Derived.Test.YtbkjdfemamehcaaChecked
import GoSem.Claim
import GoSem.ClaimJoined
import GoSem.ClaimMapViews
import Derived.JoinedTies
import Derived.KernelRfl
namespace Go.Proofs.Ytbkjdfemamehcaa
/- THE CELL 'sum', in the pinned program and in every row, IS THE sha256 OF THE DUMP (.gsa) THAT YtbkjdfemamehcaaProg.lean LOADS. Nothing in Lean hashes anything: it is a label: what it is worth is what the hold of that sum in a sandbox is worth. -/
noncomputable def Try.pinned : Pinned := { name := "ytbkjdfemamehcaa", sum := "1de81e43d4b721db5a224523efdd774a4e8da4d2c6412dd9767f52ada024b22a", checked := Try.checked }
namespace Rows
def none {H : Type} : Left H := { results := [], args := [] }

/-- 'plexuslaw03.SealSteps': WHATEVER THE INPUT: true; the input reads as it did. -/
def sealStepsSpec : ChangeSpec := { name := "sealSteps", fn := fun _ => fun
  | [d1, d2, d3] => { results := [.lit (.bool true)], args := [d1, d2, d3] }
  | _ => none }
def sealStepsRow : OpenClaim := { program := "ytbkjdfemamehcaa", sum := "1de81e43d4b721db5a224523efdd774a4e8da4d2c6412dd9767f52ada024b22a", func := "plexus/plexuslaw03.SealSteps", spec := "sealSteps", unfollowed := true, recurses := true, apart := false }
def SealStepsSaid : Prop := sealStepsRow.holds Try.pinned (OpenSpec.ofChange sealStepsSpec)

/-- ITS FALSE NEIGHBOUR: 'it returns false'. Refute it at one input. -/
def sealStepsWrong : ChangeSpec := { name := "sealSteps", fn := fun _ => fun
  | [d1, d2, d3] => { results := [.lit (.bool false)], args := [d1, d2, d3] }
  | _ => none }
def SealStepsWrongFalsely : Prop := sealStepsRow.holds Try.pinned (OpenSpec.ofChange sealStepsWrong)

/-- 'plexuslaw03.SealOpens': WHATEVER THE INPUT: true; the input reads as it did. -/
def sealOpensSpec : ChangeSpec := { name := "sealOpens", fn := fun _ => fun
  | [d1, d2, d3] => { results := [.lit (.bool true)], args := [d1, d2, d3] }
  | _ => none }
def sealOpensRow : OpenClaim := { program := "ytbkjdfemamehcaa", sum := "1de81e43d4b721db5a224523efdd774a4e8da4d2c6412dd9767f52ada024b22a", func := "plexus/plexuslaw03.SealOpens", spec := "sealOpens", unfollowed := true, recurses := true, apart := false }
def SealOpensSaid : Prop := sealOpensRow.holds Try.pinned (OpenSpec.ofChange sealOpensSpec)

/-- ITS FALSE NEIGHBOUR: 'it returns false'. Refute it at one input. -/
def sealOpensWrong : ChangeSpec := { name := "sealOpens", fn := fun _ => fun
  | [d1, d2, d3] => { results := [.lit (.bool false)], args := [d1, d2, d3] }
  | _ => none }
def SealOpensWrongFalsely : Prop := sealOpensRow.holds Try.pinned (OpenSpec.ofChange sealOpensWrong)

/-- 'plexuslaw03.SealChanges': WHATEVER THE INPUT: true; the input reads as it did. -/
def sealChangesSpec : ChangeSpec := { name := "sealChanges", fn := fun _ => fun
  | [d1, d2, d3] => { results := [.lit (.bool true)], args := [d1, d2, d3] }
  | _ => none }
def sealChangesRow : OpenClaim := { program := "ytbkjdfemamehcaa", sum := "1de81e43d4b721db5a224523efdd774a4e8da4d2c6412dd9767f52ada024b22a", func := "plexus/plexuslaw03.SealChanges", spec := "sealChanges", unfollowed := true, recurses := true, apart := false }
def SealChangesSaid : Prop := sealChangesRow.holds Try.pinned (OpenSpec.ofChange sealChangesSpec)

/-- ITS FALSE NEIGHBOUR: 'it returns false'. Refute it at one input. -/
def sealChangesWrong : ChangeSpec := { name := "sealChanges", fn := fun _ => fun
  | [d1, d2, d3] => { results := [.lit (.bool false)], args := [d1, d2, d3] }
  | _ => none }
def SealChangesWrongFalsely : Prop := sealChangesRow.holds Try.pinned (OpenSpec.ofChange sealChangesWrong)

/-- 'plexuslaw03.SealBinds': WHATEVER THE INPUT: true; the input reads as it did. -/
def sealBindsSpec : ChangeSpec := { name := "sealBinds", fn := fun _ => fun
  | [d1, d2, d3] => { results := [.lit (.bool true)], args := [d1, d2, d3] }
  | _ => none }
def sealBindsRow : OpenClaim := { program := "ytbkjdfemamehcaa", sum := "1de81e43d4b721db5a224523efdd774a4e8da4d2c6412dd9767f52ada024b22a", func := "plexus/plexuslaw03.SealBinds", spec := "sealBinds", unfollowed := true, recurses := true, apart := false }
def SealBindsSaid : Prop := sealBindsRow.holds Try.pinned (OpenSpec.ofChange sealBindsSpec)

/-- ITS FALSE NEIGHBOUR: 'it returns false'. Refute it at one input. -/
def sealBindsWrong : ChangeSpec := { name := "sealBinds", fn := fun _ => fun
  | [d1, d2, d3] => { results := [.lit (.bool false)], args := [d1, d2, d3] }
  | _ => none }
def SealBindsWrongFalsely : Prop := sealBindsRow.holds Try.pinned (OpenSpec.ofChange sealBindsWrong)

/-- 'plexuslaw03.SealMatchesReference': WHATEVER THE INPUT: true; the input reads as it did. -/
def sealMatchesReferenceSpec : ChangeSpec := { name := "sealMatchesReference", fn := fun _ => fun
  | [d1, d2, d3] => { results := [.lit (.bool true)], args := [d1, d2, d3] }
  | _ => none }
def sealMatchesReferenceRow : OpenClaim := { program := "ytbkjdfemamehcaa", sum := "1de81e43d4b721db5a224523efdd774a4e8da4d2c6412dd9767f52ada024b22a", func := "plexus/plexuslaw03.SealMatchesReference", spec := "sealMatchesReference", unfollowed := true, recurses := true, apart := false }
def SealMatchesReferenceSaid : Prop := sealMatchesReferenceRow.holds Try.pinned (OpenSpec.ofChange sealMatchesReferenceSpec)

/-- ITS FALSE NEIGHBOUR: 'it returns false'. Refute it at one input. -/
def sealMatchesReferenceWrong : ChangeSpec := { name := "sealMatchesReference", fn := fun _ => fun
  | [d1, d2, d3] => { results := [.lit (.bool false)], args := [d1, d2, d3] }
  | _ => none }
def SealMatchesReferenceWrongFalsely : Prop := sealMatchesReferenceRow.holds Try.pinned (OpenSpec.ofChange sealMatchesReferenceWrong)

/-- 'plexuslaw03.SealOneChange': WHATEVER THE INPUT: true; the input reads as it did. -/
def sealOneChangeSpec : ChangeSpec := { name := "sealOneChange", fn := fun _ => fun
  | [d1, d2, d3] => { results := [.lit (.bool true)], args := [d1, d2, d3] }
  | _ => none }
def sealOneChangeRow : OpenClaim := { program := "ytbkjdfemamehcaa", sum := "1de81e43d4b721db5a224523efdd774a4e8da4d2c6412dd9767f52ada024b22a", func := "plexus/plexuslaw03.SealOneChange", spec := "sealOneChange", unfollowed := true, recurses := true, apart := false }
def SealOneChangeSaid : Prop := sealOneChangeRow.holds Try.pinned (OpenSpec.ofChange sealOneChangeSpec)

/-- ITS FALSE NEIGHBOUR: 'it returns false'. Refute it at one input. -/
def sealOneChangeWrong : ChangeSpec := { name := "sealOneChange", fn := fun _ => fun
  | [d1, d2, d3] => { results := [.lit (.bool false)], args := [d1, d2, d3] }
  | _ => none }
def SealOneChangeWrongFalsely : Prop := sealOneChangeRow.holds Try.pinned (OpenSpec.ofChange sealOneChangeWrong)

/- THE SECOND FORM. 'bulk': how many values and letters a reading holds, each counted each time it is reached (what is shared counts as often as it is met; a slice's spare places count too). A statement '..UptoSaid' is the law's where the arguments, and the package variables that the reading takes, are together of bulk at most 1048576: NARROWER than '..Said'. Prove '..Said' where nothing that the law and all that it calls make is longer than what came in: it says more and counts as full. Else prove '..UptoSaid'. A law counts once. -/
mutual
def uptoBulk {H : Type} : DataW H → Nat
  | .lit (.string bytes) => bytes.length + 1
  | .lit _ => 1
  | .nil => 1
  | .ptr d => uptoBulk d + 1
  | .slice elems spare => uptoBulkAll elems + uptoBulkAll spare + 1
  | .agg parts => uptoBulkAll parts + 1
  | .iface _ d => uptoBulk d + 1
  | .map entries => uptoBulkEntries entries + 1
  | .held _ => 1
def uptoBulkAll {H : Type} : List (DataW H) → Nat
  | [] => 0
  | d :: r => uptoBulk d + uptoBulkAll r
def uptoBulkEntries {H : Type} : List (Lit × DataW H) → Nat
  | [] => 0
  | x :: r => uptoBulkEntry x + uptoBulkEntries r
def uptoBulkEntry {H : Type} : Lit × DataW H → Nat
  | (.string bytes, d) => bytes.length + uptoBulk d + 1
  | (_, d) => uptoBulk d + 1
 end
def uptoSmall : (H : Type) → List (DataW H) → Bool := fun _ ds => decide (uptoBulkAll ds ≤ 1048576)
def OpenSpec.upto (s : _root_.Go.ChangeSpec) : _root_.Go.OpenSpec := { _root_.Go.OpenSpec.ofChange s with cond := some uptoSmall }

/-- 'plexuslaw03.SealSteps', WHERE WHAT IT READS IS OF BULK AT MOST 1048576: true; the input reads as it did. -/
def sealStepsUptoRow : OpenClaim := { program := "ytbkjdfemamehcaa", sum := "1de81e43d4b721db5a224523efdd774a4e8da4d2c6412dd9767f52ada024b22a", func := "plexus/plexuslaw03.SealSteps", spec := "sealSteps", unfollowed := true, recurses := true, apart := false, narrowed := true }
def SealStepsUptoSaid : Prop := sealStepsUptoRow.holds Try.pinned (OpenSpec.upto sealStepsSpec)

/-- 'plexuslaw03.SealOpens', WHERE WHAT IT READS IS OF BULK AT MOST 1048576: true; the input reads as it did. -/
def sealOpensUptoRow : OpenClaim := { program := "ytbkjdfemamehcaa", sum := "1de81e43d4b721db5a224523efdd774a4e8da4d2c6412dd9767f52ada024b22a", func := "plexus/plexuslaw03.SealOpens", spec := "sealOpens", unfollowed := true, recurses := true, apart := false, narrowed := true }
def SealOpensUptoSaid : Prop := sealOpensUptoRow.holds Try.pinned (OpenSpec.upto sealOpensSpec)

/-- 'plexuslaw03.SealChanges', WHERE WHAT IT READS IS OF BULK AT MOST 1048576: true; the input reads as it did. -/
def sealChangesUptoRow : OpenClaim := { program := "ytbkjdfemamehcaa", sum := "1de81e43d4b721db5a224523efdd774a4e8da4d2c6412dd9767f52ada024b22a", func := "plexus/plexuslaw03.SealChanges", spec := "sealChanges", unfollowed := true, recurses := true, apart := false, narrowed := true }
def SealChangesUptoSaid : Prop := sealChangesUptoRow.holds Try.pinned (OpenSpec.upto sealChangesSpec)

/-- 'plexuslaw03.SealBinds', WHERE WHAT IT READS IS OF BULK AT MOST 1048576: true; the input reads as it did. -/
def sealBindsUptoRow : OpenClaim := { program := "ytbkjdfemamehcaa", sum := "1de81e43d4b721db5a224523efdd774a4e8da4d2c6412dd9767f52ada024b22a", func := "plexus/plexuslaw03.SealBinds", spec := "sealBinds", unfollowed := true, recurses := true, apart := false, narrowed := true }
def SealBindsUptoSaid : Prop := sealBindsUptoRow.holds Try.pinned (OpenSpec.upto sealBindsSpec)

/-- 'plexuslaw03.SealMatchesReference', WHERE WHAT IT READS IS OF BULK AT MOST 1048576: true; the input reads as it did. -/
def sealMatchesReferenceUptoRow : OpenClaim := { program := "ytbkjdfemamehcaa", sum := "1de81e43d4b721db5a224523efdd774a4e8da4d2c6412dd9767f52ada024b22a", func := "plexus/plexuslaw03.SealMatchesReference", spec := "sealMatchesReference", unfollowed := true, recurses := true, apart := false, narrowed := true }
def SealMatchesReferenceUptoSaid : Prop := sealMatchesReferenceUptoRow.holds Try.pinned (OpenSpec.upto sealMatchesReferenceSpec)

/-- 'plexuslaw03.SealOneChange', WHERE WHAT IT READS IS OF BULK AT MOST 1048576: true; the input reads as it did. -/
def sealOneChangeUptoRow : OpenClaim := { program := "ytbkjdfemamehcaa", sum := "1de81e43d4b721db5a224523efdd774a4e8da4d2c6412dd9767f52ada024b22a", func := "plexus/plexuslaw03.SealOneChange", spec := "sealOneChange", unfollowed := true, recurses := true, apart := false, narrowed := true }
def SealOneChangeUptoSaid : Prop := sealOneChangeUptoRow.holds Try.pinned (OpenSpec.upto sealOneChangeSpec)

end Rows
end Go.Proofs.Ytbkjdfemamehcaa
