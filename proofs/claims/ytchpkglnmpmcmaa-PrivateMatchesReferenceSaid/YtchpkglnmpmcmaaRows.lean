/-
  No cell of these rows narrows 'for every input' (looked for: loops, veiled, ifaces, maps, wideKeys, modest, calm, conditions, laid).
  DERIVED. THE GIVEN ROWS OF THIS SEAT. 6 by the template 'for every input the law returns true; each argument reads behind the call as it read before'; 0 by the template 'total and deterministic' (their statements: YtchpkglnmpmcmaaTotals.lean).
  GIVEN WITH THE SEED: the statements are not yours to turn. If you find one false, say at which input.
  Laid BY PROGRAM, IN A SANDBOX (cutbox-rows.mjs): the forced cells as the released guide's own fill.sh prints them over the translation 8b4f97384e57aee2… (all of the seat's roots in one cut). By AI agents, Wed Nov 11 2026. No macro, syntax, notation, axiom, sorry.
-/
import Derived.Test.YtchpkglnmpmcmaaChecked
import GoSem.Claim
import GoSem.ClaimJoined
import GoSem.ClaimMapViews
import Derived.JoinedTies
import Derived.KernelRfl
namespace Go.Proofs.Ytchpkglnmpmcmaa
/- THE CELL 'sum', in the pinned program and in every row, IS THE sha256 OF THE DUMP (.gsa) THAT YtchpkglnmpmcmaaProg.lean LOADS. Nothing in Lean hashes anything: it is a label: what it is worth is what the hold of that sum in a sandbox is worth. -/
noncomputable def Try.pinned : Pinned := { name := "ytchpkglnmpmcmaa", sum := "8b4f97384e57aee201939363d9882a3ce2a417001f35bc77655a5931a6be3e08", checked := Try.checked }
namespace Rows
def none {H : Type} : Left H := { results := [], args := [] }

/-- 'plexuslaw47.PrivateMatchesReference': WHATEVER THE INPUT: true; the input reads as it did. -/
def privateMatchesReferenceSpec : ChangeSpec := { name := "privateMatchesReference", fn := fun _ => fun
  | [d1, d2, d3] => { results := [.lit (.bool true)], args := [d1, d2, d3] }
  | _ => none }
def privateMatchesReferenceRow : OpenClaim := { program := "ytchpkglnmpmcmaa", sum := "8b4f97384e57aee201939363d9882a3ce2a417001f35bc77655a5931a6be3e08", func := "plexus/plexuslaw47.PrivateMatchesReference", spec := "privateMatchesReference", unfollowed := true, recurses := true, apart := false }
def PrivateMatchesReferenceSaid : Prop := privateMatchesReferenceRow.holds Try.pinned (OpenSpec.ofChange privateMatchesReferenceSpec)

/-- ITS FALSE NEIGHBOUR: 'it returns false'. Refute it at one input. -/
def privateMatchesReferenceWrong : ChangeSpec := { name := "privateMatchesReference", fn := fun _ => fun
  | [d1, d2, d3] => { results := [.lit (.bool false)], args := [d1, d2, d3] }
  | _ => none }
def PrivateMatchesReferenceWrongFalsely : Prop := privateMatchesReferenceRow.holds Try.pinned (OpenSpec.ofChange privateMatchesReferenceWrong)

/-- 'plexuslaw47.PrivateOpens': WHATEVER THE INPUT: true; the input reads as it did. -/
def privateOpensSpec : ChangeSpec := { name := "privateOpens", fn := fun _ => fun
  | [d1, d2] => { results := [.lit (.bool true)], args := [d1, d2] }
  | _ => none }
def privateOpensRow : OpenClaim := { program := "ytchpkglnmpmcmaa", sum := "8b4f97384e57aee201939363d9882a3ce2a417001f35bc77655a5931a6be3e08", func := "plexus/plexuslaw47.PrivateOpens", spec := "privateOpens", unfollowed := true, recurses := true, apart := false }
def PrivateOpensSaid : Prop := privateOpensRow.holds Try.pinned (OpenSpec.ofChange privateOpensSpec)

/-- ITS FALSE NEIGHBOUR: 'it returns false'. Refute it at one input. -/
def privateOpensWrong : ChangeSpec := { name := "privateOpens", fn := fun _ => fun
  | [d1, d2] => { results := [.lit (.bool false)], args := [d1, d2] }
  | _ => none }
def PrivateOpensWrongFalsely : Prop := privateOpensRow.holds Try.pinned (OpenSpec.ofChange privateOpensWrong)

/-- 'plexuslaw47.PrivateBinds': WHATEVER THE INPUT: true; the input reads as it did. -/
def privateBindsSpec : ChangeSpec := { name := "privateBinds", fn := fun _ => fun
  | [d1, d2, d3] => { results := [.lit (.bool true)], args := [d1, d2, d3] }
  | _ => none }
def privateBindsRow : OpenClaim := { program := "ytchpkglnmpmcmaa", sum := "8b4f97384e57aee201939363d9882a3ce2a417001f35bc77655a5931a6be3e08", func := "plexus/plexuslaw47.PrivateBinds", spec := "privateBinds", unfollowed := true, recurses := true, apart := false }
def PrivateBindsSaid : Prop := privateBindsRow.holds Try.pinned (OpenSpec.ofChange privateBindsSpec)

/-- ITS FALSE NEIGHBOUR: 'it returns false'. Refute it at one input. -/
def privateBindsWrong : ChangeSpec := { name := "privateBinds", fn := fun _ => fun
  | [d1, d2, d3] => { results := [.lit (.bool false)], args := [d1, d2, d3] }
  | _ => none }
def PrivateBindsWrongFalsely : Prop := privateBindsRow.holds Try.pinned (OpenSpec.ofChange privateBindsWrong)

/-- 'plexuslaw47.PrivateDiffers': WHATEVER THE INPUT: true; the input reads as it did. -/
def privateDiffersSpec : ChangeSpec := { name := "privateDiffers", fn := fun _ => fun
  | [d1, d2, d3] => { results := [.lit (.bool true)], args := [d1, d2, d3] }
  | _ => none }
def privateDiffersRow : OpenClaim := { program := "ytchpkglnmpmcmaa", sum := "8b4f97384e57aee201939363d9882a3ce2a417001f35bc77655a5931a6be3e08", func := "plexus/plexuslaw47.PrivateDiffers", spec := "privateDiffers", unfollowed := true, recurses := true, apart := false }
def PrivateDiffersSaid : Prop := privateDiffersRow.holds Try.pinned (OpenSpec.ofChange privateDiffersSpec)

/-- ITS FALSE NEIGHBOUR: 'it returns false'. Refute it at one input. -/
def privateDiffersWrong : ChangeSpec := { name := "privateDiffers", fn := fun _ => fun
  | [d1, d2, d3] => { results := [.lit (.bool false)], args := [d1, d2, d3] }
  | _ => none }
def PrivateDiffersWrongFalsely : Prop := privateDiffersRow.holds Try.pinned (OpenSpec.ofChange privateDiffersWrong)

/-- 'plexuslaw47.PrivateHides': WHATEVER THE INPUT: true; the input reads as it did. -/
def privateHidesSpec : ChangeSpec := { name := "privateHides", fn := fun _ => fun
  | [d1, d2, d3] => { results := [.lit (.bool true)], args := [d1, d2, d3] }
  | _ => none }
def privateHidesRow : OpenClaim := { program := "ytchpkglnmpmcmaa", sum := "8b4f97384e57aee201939363d9882a3ce2a417001f35bc77655a5931a6be3e08", func := "plexus/plexuslaw47.PrivateHides", spec := "privateHides", unfollowed := true, recurses := true, apart := false }
def PrivateHidesSaid : Prop := privateHidesRow.holds Try.pinned (OpenSpec.ofChange privateHidesSpec)

/-- ITS FALSE NEIGHBOUR: 'it returns false'. Refute it at one input. -/
def privateHidesWrong : ChangeSpec := { name := "privateHides", fn := fun _ => fun
  | [d1, d2, d3] => { results := [.lit (.bool false)], args := [d1, d2, d3] }
  | _ => none }
def PrivateHidesWrongFalsely : Prop := privateHidesRow.holds Try.pinned (OpenSpec.ofChange privateHidesWrong)

/-- 'plexuslaw47.PrivateWhole': WHATEVER THE INPUT: true; the input reads as it did. -/
def privateWholeSpec : ChangeSpec := { name := "privateWhole", fn := fun _ => fun
  | [d1, d2, d3] => { results := [.lit (.bool true)], args := [d1, d2, d3] }
  | _ => none }
def privateWholeRow : OpenClaim := { program := "ytchpkglnmpmcmaa", sum := "8b4f97384e57aee201939363d9882a3ce2a417001f35bc77655a5931a6be3e08", func := "plexus/plexuslaw47.PrivateWhole", spec := "privateWhole", unfollowed := true, recurses := true, apart := false }
def PrivateWholeSaid : Prop := privateWholeRow.holds Try.pinned (OpenSpec.ofChange privateWholeSpec)

/-- ITS FALSE NEIGHBOUR: 'it returns false'. Refute it at one input. -/
def privateWholeWrong : ChangeSpec := { name := "privateWhole", fn := fun _ => fun
  | [d1, d2, d3] => { results := [.lit (.bool false)], args := [d1, d2, d3] }
  | _ => none }
def PrivateWholeWrongFalsely : Prop := privateWholeRow.holds Try.pinned (OpenSpec.ofChange privateWholeWrong)

/- THE SECOND FORM. 'bulk': how many values and letters a reading holds, each counted each time it is reached (what is shared counts as often as it is met; a slice's spare places count too). A statement '..UptoSaid' is the law's where the arguments, and the package variables that the reading takes, are together of bulk at most 1048576: NARROWER than '..Said'. Prove '..Said' where nothing that the law and all that it calls make is longer than what came in: it says more and counts as full. Else prove '..UptoSaid'. A law counts once. -/
mutual
def uptoBulk {H : Type} : DataW H → Nat
  | .lit (.string bytes) => bytes.length + 1
  | .lit _ => 1
  | .nil => 1
  | .ptr d => uptoBulk d + 1
  | .slice elems spare => uptoBulkAll elems + uptoBulkAll spare + 1
  | .agg parts => uptoBulkAll parts + 1
  | .iface _ d => uptoBulk d + 1
  | .map entries => uptoBulkEntries entries + 1
  | .held _ => 1
def uptoBulkAll {H : Type} : List (DataW H) → Nat
  | [] => 0
  | d :: r => uptoBulk d + uptoBulkAll r
def uptoBulkEntries {H : Type} : List (Lit × DataW H) → Nat
  | [] => 0
  | x :: r => uptoBulkEntry x + uptoBulkEntries r
def uptoBulkEntry {H : Type} : Lit × DataW H → Nat
  | (.string bytes, d) => bytes.length + uptoBulk d + 1
  | (_, d) => uptoBulk d + 1
 end
def uptoSmall : (H : Type) → List (DataW H) → Bool := fun _ ds => decide (uptoBulkAll ds ≤ 1048576)
def OpenSpec.upto (s : _root_.Go.ChangeSpec) : _root_.Go.OpenSpec := { _root_.Go.OpenSpec.ofChange s with cond := some uptoSmall }

/-- 'plexuslaw47.PrivateMatchesReference', WHERE WHAT IT READS IS OF BULK AT MOST 1048576: true; the input reads as it did. -/
def privateMatchesReferenceUptoRow : OpenClaim := { program := "ytchpkglnmpmcmaa", sum := "8b4f97384e57aee201939363d9882a3ce2a417001f35bc77655a5931a6be3e08", func := "plexus/plexuslaw47.PrivateMatchesReference", spec := "privateMatchesReference", unfollowed := true, recurses := true, apart := false, narrowed := true }
def PrivateMatchesReferenceUptoSaid : Prop := privateMatchesReferenceUptoRow.holds Try.pinned (OpenSpec.upto privateMatchesReferenceSpec)

/-- 'plexuslaw47.PrivateOpens', WHERE WHAT IT READS IS OF BULK AT MOST 1048576: true; the input reads as it did. -/
def privateOpensUptoRow : OpenClaim := { program := "ytchpkglnmpmcmaa", sum := "8b4f97384e57aee201939363d9882a3ce2a417001f35bc77655a5931a6be3e08", func := "plexus/plexuslaw47.PrivateOpens", spec := "privateOpens", unfollowed := true, recurses := true, apart := false, narrowed := true }
def PrivateOpensUptoSaid : Prop := privateOpensUptoRow.holds Try.pinned (OpenSpec.upto privateOpensSpec)

/-- 'plexuslaw47.PrivateBinds', WHERE WHAT IT READS IS OF BULK AT MOST 1048576: true; the input reads as it did. -/
def privateBindsUptoRow : OpenClaim := { program := "ytchpkglnmpmcmaa", sum := "8b4f97384e57aee201939363d9882a3ce2a417001f35bc77655a5931a6be3e08", func := "plexus/plexuslaw47.PrivateBinds", spec := "privateBinds", unfollowed := true, recurses := true, apart := false, narrowed := true }
def PrivateBindsUptoSaid : Prop := privateBindsUptoRow.holds Try.pinned (OpenSpec.upto privateBindsSpec)

/-- 'plexuslaw47.PrivateDiffers', WHERE WHAT IT READS IS OF BULK AT MOST 1048576: true; the input reads as it did. -/
def privateDiffersUptoRow : OpenClaim := { program := "ytchpkglnmpmcmaa", sum := "8b4f97384e57aee201939363d9882a3ce2a417001f35bc77655a5931a6be3e08", func := "plexus/plexuslaw47.PrivateDiffers", spec := "privateDiffers", unfollowed := true, recurses := true, apart := false, narrowed := true }
def PrivateDiffersUptoSaid : Prop := privateDiffersUptoRow.holds Try.pinned (OpenSpec.upto privateDiffersSpec)

/-- 'plexuslaw47.PrivateHides', WHERE WHAT IT READS IS OF BULK AT MOST 1048576: true; the input reads as it did. -/
def privateHidesUptoRow : OpenClaim := { program := "ytchpkglnmpmcmaa", sum := "8b4f97384e57aee201939363d9882a3ce2a417001f35bc77655a5931a6be3e08", func := "plexus/plexuslaw47.PrivateHides", spec := "privateHides", unfollowed := true, recurses := true, apart := false, narrowed := true }
def PrivateHidesUptoSaid : Prop := privateHidesUptoRow.holds Try.pinned (OpenSpec.upto privateHidesSpec)

/-- 'plexuslaw47.PrivateWhole', WHERE WHAT IT READS IS OF BULK AT MOST 1048576: true; the input reads as it did. -/
def privateWholeUptoRow : OpenClaim := { program := "ytchpkglnmpmcmaa", sum := "8b4f97384e57aee201939363d9882a3ce2a417001f35bc77655a5931a6be3e08", func := "plexus/plexuslaw47.PrivateWhole", spec := "privateWhole", unfollowed := true, recurses := true, apart := false, narrowed := true }
def PrivateWholeUptoSaid : Prop := privateWholeUptoRow.holds Try.pinned (OpenSpec.upto privateWholeSpec)

end Rows
end Go.Proofs.Ytchpkglnmpmcmaa
