/-
  No cell of these rows narrows 'for every input' (looked for: loops, veiled, ifaces, maps, wideKeys, modest, calm, conditions, laid).
  DERIVED. THE GIVEN ROWS OF THIS SEAT. 6 by the template 'for every input the law returns true; each argument reads behind the call as it read before'; 0 by the template 'total and deterministic' (their statements: YtjnpcpnjcieheaaGreatTotals.lean).
  GIVEN WITH THE SEED: the statements are not yours to turn. If you find one false, say at which input.
  Laid BY PROGRAM, IN A SANDBOX (cutbox-rows.mjs): the forced cells as the released guide's own fill.sh prints them over the translation e2466bd3f850933b… (all of the seat's roots in one cut). By AI agents, Wed Nov 11 2026. No macro, syntax, notation, axiom, sorry.
-/
import Derived.Test.YtjnpcpnjcieheaaGreatChecked
import GoSem.Claim
import GoSem.ClaimJoined
import GoSem.ClaimMapViews
import Derived.JoinedTies
import Derived.KernelRfl
namespace Go.Proofs.YtjnpcpnjcieheaaGreat
/- THE CELL 'sum', in the pinned program and in every row, IS THE sha256 OF THE DUMP (.gsa) THAT YtjnpcpnjcieheaaGreatProg.lean LOADS. Nothing in Lean hashes anything: it is a label: what it is worth is what the hold of that sum in a sandbox is worth. -/
noncomputable def Tryz.pinned : Pinned := { name := "ytjnpcpnjcieheaagreat", sum := "e2466bd3f850933b27eab9797b695cc81519ed83c0d6d56f39c1c86588726cf3", checked := Tryz.checked }
namespace Rows
def none {H : Type} : Left H := { results := [], args := [] }

/-- 'plexuslaw48.EditionSigned': WHATEVER THE INPUT: true; the input reads as it did. -/
def editionSignedSpec : ChangeSpec := { name := "editionSigned", fn := fun _ => fun
  | [d1, d2, d3] => { results := [.lit (.bool true)], args := [d1, d2, d3] }
  | _ => none }
def editionSignedRow : OpenClaim := { program := "ytjnpcpnjcieheaagreat", sum := "e2466bd3f850933b27eab9797b695cc81519ed83c0d6d56f39c1c86588726cf3", func := "plexus/plexuslaw48.EditionSigned", spec := "editionSigned", unfollowed := true, recurses := true, apart := false }
def EditionSignedSaid : Prop := editionSignedRow.holds Tryz.pinned (OpenSpec.ofChange editionSignedSpec)

/-- ITS FALSE NEIGHBOUR: 'it returns false'. Refute it at one input. -/
def editionSignedWrong : ChangeSpec := { name := "editionSigned", fn := fun _ => fun
  | [d1, d2, d3] => { results := [.lit (.bool false)], args := [d1, d2, d3] }
  | _ => none }
def EditionSignedWrongFalsely : Prop := editionSignedRow.holds Tryz.pinned (OpenSpec.ofChange editionSignedWrong)

/-- 'plexuslaw48.EditionChanges': WHATEVER THE INPUT: true; the input reads as it did. -/
def editionChangesSpec : ChangeSpec := { name := "editionChanges", fn := fun _ => fun
  | [d1, d2, d3] => { results := [.lit (.bool true)], args := [d1, d2, d3] }
  | _ => none }
def editionChangesRow : OpenClaim := { program := "ytjnpcpnjcieheaagreat", sum := "e2466bd3f850933b27eab9797b695cc81519ed83c0d6d56f39c1c86588726cf3", func := "plexus/plexuslaw48.EditionChanges", spec := "editionChanges", unfollowed := true, recurses := true, apart := false }
def EditionChangesSaid : Prop := editionChangesRow.holds Tryz.pinned (OpenSpec.ofChange editionChangesSpec)

/-- ITS FALSE NEIGHBOUR: 'it returns false'. Refute it at one input. -/
def editionChangesWrong : ChangeSpec := { name := "editionChanges", fn := fun _ => fun
  | [d1, d2, d3] => { results := [.lit (.bool false)], args := [d1, d2, d3] }
  | _ => none }
def EditionChangesWrongFalsely : Prop := editionChangesRow.holds Tryz.pinned (OpenSpec.ofChange editionChangesWrong)

/-- 'plexuslaw48.EditionForks': WHATEVER THE INPUT: true; the input reads as it did. -/
def editionForksSpec : ChangeSpec := { name := "editionForks", fn := fun _ => fun
  | [d1, d2, d3] => { results := [.lit (.bool true)], args := [d1, d2, d3] }
  | _ => none }
def editionForksRow : OpenClaim := { program := "ytjnpcpnjcieheaagreat", sum := "e2466bd3f850933b27eab9797b695cc81519ed83c0d6d56f39c1c86588726cf3", func := "plexus/plexuslaw48.EditionForks", spec := "editionForks", unfollowed := true, recurses := true, apart := false }
def EditionForksSaid : Prop := editionForksRow.holds Tryz.pinned (OpenSpec.ofChange editionForksSpec)

/-- ITS FALSE NEIGHBOUR: 'it returns false'. Refute it at one input. -/
def editionForksWrong : ChangeSpec := { name := "editionForks", fn := fun _ => fun
  | [d1, d2, d3] => { results := [.lit (.bool false)], args := [d1, d2, d3] }
  | _ => none }
def EditionForksWrongFalsely : Prop := editionForksRow.holds Tryz.pinned (OpenSpec.ofChange editionForksWrong)

/-- 'plexuslaw48.EditionRoots': WHATEVER THE INPUT: true; the input reads as it did. -/
def editionRootsSpec : ChangeSpec := { name := "editionRoots", fn := fun _ => fun
  | [d1, d2, d3] => { results := [.lit (.bool true)], args := [d1, d2, d3] }
  | _ => none }
def editionRootsRow : OpenClaim := { program := "ytjnpcpnjcieheaagreat", sum := "e2466bd3f850933b27eab9797b695cc81519ed83c0d6d56f39c1c86588726cf3", func := "plexus/plexuslaw48.EditionRoots", spec := "editionRoots", unfollowed := true, recurses := true, apart := false }
def EditionRootsSaid : Prop := editionRootsRow.holds Tryz.pinned (OpenSpec.ofChange editionRootsSpec)

/-- ITS FALSE NEIGHBOUR: 'it returns false'. Refute it at one input. -/
def editionRootsWrong : ChangeSpec := { name := "editionRoots", fn := fun _ => fun
  | [d1, d2, d3] => { results := [.lit (.bool false)], args := [d1, d2, d3] }
  | _ => none }
def EditionRootsWrongFalsely : Prop := editionRootsRow.holds Tryz.pinned (OpenSpec.ofChange editionRootsWrong)

/-- 'plexuslaw48.EditionMatchesReference': WHATEVER THE INPUT: true; the input reads as it did. -/
def editionMatchesReferenceSpec : ChangeSpec := { name := "editionMatchesReference", fn := fun _ => fun
  | [d1, d2, d3] => { results := [.lit (.bool true)], args := [d1, d2, d3] }
  | _ => none }
def editionMatchesReferenceRow : OpenClaim := { program := "ytjnpcpnjcieheaagreat", sum := "e2466bd3f850933b27eab9797b695cc81519ed83c0d6d56f39c1c86588726cf3", func := "plexus/plexuslaw48.EditionMatchesReference", spec := "editionMatchesReference", unfollowed := true, recurses := true, apart := false }
def EditionMatchesReferenceSaid : Prop := editionMatchesReferenceRow.holds Tryz.pinned (OpenSpec.ofChange editionMatchesReferenceSpec)

/-- ITS FALSE NEIGHBOUR: 'it returns false'. Refute it at one input. -/
def editionMatchesReferenceWrong : ChangeSpec := { name := "editionMatchesReference", fn := fun _ => fun
  | [d1, d2, d3] => { results := [.lit (.bool false)], args := [d1, d2, d3] }
  | _ => none }
def EditionMatchesReferenceWrongFalsely : Prop := editionMatchesReferenceRow.holds Tryz.pinned (OpenSpec.ofChange editionMatchesReferenceWrong)

/-- 'plexuslaw48.EditionEntries': WHATEVER THE INPUT: true; the input reads as it did. -/
def editionEntriesSpec : ChangeSpec := { name := "editionEntries", fn := fun _ => fun
  | [d1, d2, d3] => { results := [.lit (.bool true)], args := [d1, d2, d3] }
  | _ => none }
def editionEntriesRow : OpenClaim := { program := "ytjnpcpnjcieheaagreat", sum := "e2466bd3f850933b27eab9797b695cc81519ed83c0d6d56f39c1c86588726cf3", func := "plexus/plexuslaw48.EditionEntries", spec := "editionEntries", unfollowed := true, recurses := true, apart := false }
def EditionEntriesSaid : Prop := editionEntriesRow.holds Tryz.pinned (OpenSpec.ofChange editionEntriesSpec)

/-- ITS FALSE NEIGHBOUR: 'it returns false'. Refute it at one input. -/
def editionEntriesWrong : ChangeSpec := { name := "editionEntries", fn := fun _ => fun
  | [d1, d2, d3] => { results := [.lit (.bool false)], args := [d1, d2, d3] }
  | _ => none }
def EditionEntriesWrongFalsely : Prop := editionEntriesRow.holds Tryz.pinned (OpenSpec.ofChange editionEntriesWrong)

/- THE SECOND FORM. 'bulk': how many values and letters a reading holds, each counted each time it is reached (what is shared counts as often as it is met; a slice's spare places count too). A statement '..UptoSaid' is the law's where the arguments, and the package variables that the reading takes, are together of bulk at most 1048576: NARROWER than '..Said'. Prove '..Said' where nothing that the law and all that it calls make is longer than what came in: it says more and counts as full. Else prove '..UptoSaid'. A law counts once. -/
mutual
def uptoBulk {H : Type} : DataW H → Nat
  | .lit (.string bytes) => bytes.length + 1
  | .lit _ => 1
  | .nil => 1
  | .ptr d => uptoBulk d + 1
  | .slice elems spare => uptoBulkAll elems + uptoBulkAll spare + 1
  | .agg parts => uptoBulkAll parts + 1
  | .iface _ d => uptoBulk d + 1
  | .map entries => uptoBulkEntries entries + 1
  | .held _ => 1
def uptoBulkAll {H : Type} : List (DataW H) → Nat
  | [] => 0
  | d :: r => uptoBulk d + uptoBulkAll r
def uptoBulkEntries {H : Type} : List (Lit × DataW H) → Nat
  | [] => 0
  | x :: r => uptoBulkEntry x + uptoBulkEntries r
def uptoBulkEntry {H : Type} : Lit × DataW H → Nat
  | (.string bytes, d) => bytes.length + uptoBulk d + 1
  | (_, d) => uptoBulk d + 1
 end
def uptoSmall : (H : Type) → List (DataW H) → Bool := fun _ ds => decide (uptoBulkAll ds ≤ 1048576)
def OpenSpec.upto (s : _root_.Go.ChangeSpec) : _root_.Go.OpenSpec := { _root_.Go.OpenSpec.ofChange s with cond := some uptoSmall }

/-- 'plexuslaw48.EditionSigned', WHERE WHAT IT READS IS OF BULK AT MOST 1048576: true; the input reads as it did. -/
def editionSignedUptoRow : OpenClaim := { program := "ytjnpcpnjcieheaagreat", sum := "e2466bd3f850933b27eab9797b695cc81519ed83c0d6d56f39c1c86588726cf3", func := "plexus/plexuslaw48.EditionSigned", spec := "editionSigned", unfollowed := true, recurses := true, apart := false, narrowed := true }
def EditionSignedUptoSaid : Prop := editionSignedUptoRow.holds Tryz.pinned (OpenSpec.upto editionSignedSpec)

/-- 'plexuslaw48.EditionChanges', WHERE WHAT IT READS IS OF BULK AT MOST 1048576: true; the input reads as it did. -/
def editionChangesUptoRow : OpenClaim := { program := "ytjnpcpnjcieheaagreat", sum := "e2466bd3f850933b27eab9797b695cc81519ed83c0d6d56f39c1c86588726cf3", func := "plexus/plexuslaw48.EditionChanges", spec := "editionChanges", unfollowed := true, recurses := true, apart := false, narrowed := true }
def EditionChangesUptoSaid : Prop := editionChangesUptoRow.holds Tryz.pinned (OpenSpec.upto editionChangesSpec)

/-- 'plexuslaw48.EditionForks', WHERE WHAT IT READS IS OF BULK AT MOST 1048576: true; the input reads as it did. -/
def editionForksUptoRow : OpenClaim := { program := "ytjnpcpnjcieheaagreat", sum := "e2466bd3f850933b27eab9797b695cc81519ed83c0d6d56f39c1c86588726cf3", func := "plexus/plexuslaw48.EditionForks", spec := "editionForks", unfollowed := true, recurses := true, apart := false, narrowed := true }
def EditionForksUptoSaid : Prop := editionForksUptoRow.holds Tryz.pinned (OpenSpec.upto editionForksSpec)

/-- 'plexuslaw48.EditionRoots', WHERE WHAT IT READS IS OF BULK AT MOST 1048576: true; the input reads as it did. -/
def editionRootsUptoRow : OpenClaim := { program := "ytjnpcpnjcieheaagreat", sum := "e2466bd3f850933b27eab9797b695cc81519ed83c0d6d56f39c1c86588726cf3", func := "plexus/plexuslaw48.EditionRoots", spec := "editionRoots", unfollowed := true, recurses := true, apart := false, narrowed := true }
def EditionRootsUptoSaid : Prop := editionRootsUptoRow.holds Tryz.pinned (OpenSpec.upto editionRootsSpec)

/-- 'plexuslaw48.EditionMatchesReference', WHERE WHAT IT READS IS OF BULK AT MOST 1048576: true; the input reads as it did. -/
def editionMatchesReferenceUptoRow : OpenClaim := { program := "ytjnpcpnjcieheaagreat", sum := "e2466bd3f850933b27eab9797b695cc81519ed83c0d6d56f39c1c86588726cf3", func := "plexus/plexuslaw48.EditionMatchesReference", spec := "editionMatchesReference", unfollowed := true, recurses := true, apart := false, narrowed := true }
def EditionMatchesReferenceUptoSaid : Prop := editionMatchesReferenceUptoRow.holds Tryz.pinned (OpenSpec.upto editionMatchesReferenceSpec)

/-- 'plexuslaw48.EditionEntries', WHERE WHAT IT READS IS OF BULK AT MOST 1048576: true; the input reads as it did. -/
def editionEntriesUptoRow : OpenClaim := { program := "ytjnpcpnjcieheaagreat", sum := "e2466bd3f850933b27eab9797b695cc81519ed83c0d6d56f39c1c86588726cf3", func := "plexus/plexuslaw48.EditionEntries", spec := "editionEntries", unfollowed := true, recurses := true, apart := false, narrowed := true }
def EditionEntriesUptoSaid : Prop := editionEntriesUptoRow.holds Tryz.pinned (OpenSpec.upto editionEntriesSpec)

end Rows
end Go.Proofs.YtjnpcpnjcieheaaGreat
