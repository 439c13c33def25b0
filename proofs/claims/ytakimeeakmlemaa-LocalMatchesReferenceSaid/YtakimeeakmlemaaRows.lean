/-
  No cell of these rows narrows 'for every input' (looked for: loops, veiled, ifaces, maps, wideKeys, modest, calm, conditions, laid).
  DERIVED. THE GIVEN ROWS OF THIS SEAT. 6 by the template 'for every input the law returns true; each argument reads behind the call as it read before'; 0 by the template 'total and deterministic' (their statements: YtakimeeakmlemaaTotals.lean).
  GIVEN WITH THE SEED: the statements are not yours to turn. If you find one false, say at which input.
  Laid BY PROGRAM, IN A SANDBOX (cutbox-rows.mjs): the forced cells as the released guide's own fill.sh prints them over the translation ec41992587eac98f… (all of the seat's roots in one cut). By AI agents, Wed Nov 11 2026. No macro, syntax, notation, axiom, sorry.
-/
import Derived.Test.YtakimeeakmlemaaChecked
import GoSem.Claim
import GoSem.ClaimJoined
import GoSem.ClaimMapViews
import Derived.JoinedTies
import Derived.KernelRfl
namespace Go.Proofs.Ytakimeeakmlemaa
/- THE CELL 'sum', in the pinned program and in every row, IS THE sha256 OF THE DUMP (.gsa) THAT YtakimeeakmlemaaProg.lean LOADS. Nothing in Lean hashes anything: it is a label: what it is worth is what the hold of that sum in a sandbox is worth. -/
noncomputable def Try.pinned : Pinned := { name := "ytakimeeakmlemaa", sum := "ec41992587eac98f977470f1934cee6cf732070e91b50ee381204e8341ab49fa", checked := Try.checked }
namespace Rows
def none {H : Type} : Left H := { results := [], args := [] }

/-- 'plexuslaw22.LocalMatchesReference': WHATEVER THE INPUT: true; the input reads as it did. -/
def localMatchesReferenceSpec : ChangeSpec := { name := "localMatchesReference", fn := fun _ => fun
  | [d1, d2, d3] => { results := [.lit (.bool true)], args := [d1, d2, d3] }
  | _ => none }
def localMatchesReferenceRow : OpenClaim := { program := "ytakimeeakmlemaa", sum := "ec41992587eac98f977470f1934cee6cf732070e91b50ee381204e8341ab49fa", func := "plexus/plexuslaw22.LocalMatchesReference", spec := "localMatchesReference", inPlace := ["math.sqrt"], unfollowed := true, recurses := true, apart := false }
def LocalMatchesReferenceSaid : Prop := localMatchesReferenceRow.holds Try.pinned (OpenSpec.ofChange localMatchesReferenceSpec)

/-- ITS FALSE NEIGHBOUR: 'it returns false'. Refute it at one input. -/
def localMatchesReferenceWrong : ChangeSpec := { name := "localMatchesReference", fn := fun _ => fun
  | [d1, d2, d3] => { results := [.lit (.bool false)], args := [d1, d2, d3] }
  | _ => none }
def LocalMatchesReferenceWrongFalsely : Prop := localMatchesReferenceRow.holds Try.pinned (OpenSpec.ofChange localMatchesReferenceWrong)

/-- 'plexuslaw22.LocalLegendre': WHATEVER THE INPUT: true; the input reads as it did. -/
def localLegendreSpec : ChangeSpec := { name := "localLegendre", fn := fun _ => fun
  | [d1, d2, d3] => { results := [.lit (.bool true)], args := [d1, d2, d3] }
  | _ => none }
def localLegendreRow : OpenClaim := { program := "ytakimeeakmlemaa", sum := "ec41992587eac98f977470f1934cee6cf732070e91b50ee381204e8341ab49fa", func := "plexus/plexuslaw22.LocalLegendre", spec := "localLegendre", inPlace := ["math.sqrt"], unfollowed := true, recurses := true, apart := false }
def LocalLegendreSaid : Prop := localLegendreRow.holds Try.pinned (OpenSpec.ofChange localLegendreSpec)

/-- ITS FALSE NEIGHBOUR: 'it returns false'. Refute it at one input. -/
def localLegendreWrong : ChangeSpec := { name := "localLegendre", fn := fun _ => fun
  | [d1, d2, d3] => { results := [.lit (.bool false)], args := [d1, d2, d3] }
  | _ => none }
def LocalLegendreWrongFalsely : Prop := localLegendreRow.holds Try.pinned (OpenSpec.ofChange localLegendreWrong)

/-- 'plexuslaw22.LocalFactors': WHATEVER THE INPUT: true; the input reads as it did. -/
def localFactorsSpec : ChangeSpec := { name := "localFactors", fn := fun _ => fun
  | [d1, d2] => { results := [.lit (.bool true)], args := [d1, d2] }
  | _ => none }
def localFactorsRow : OpenClaim := { program := "ytakimeeakmlemaa", sum := "ec41992587eac98f977470f1934cee6cf732070e91b50ee381204e8341ab49fa", func := "plexus/plexuslaw22.LocalFactors", spec := "localFactors", inPlace := ["math.sqrt"], unfollowed := true, recurses := true, apart := false }
def LocalFactorsSaid : Prop := localFactorsRow.holds Try.pinned (OpenSpec.ofChange localFactorsSpec)

/-- ITS FALSE NEIGHBOUR: 'it returns false'. Refute it at one input. -/
def localFactorsWrong : ChangeSpec := { name := "localFactors", fn := fun _ => fun
  | [d1, d2] => { results := [.lit (.bool false)], args := [d1, d2] }
  | _ => none }
def LocalFactorsWrongFalsely : Prop := localFactorsRow.holds Try.pinned (OpenSpec.ofChange localFactorsWrong)

/-- 'plexuslaw22.LocalHilbert': WHATEVER THE INPUT: true; the input reads as it did. -/
def localHilbertSpec : ChangeSpec := { name := "localHilbert", fn := fun _ => fun
  | [d1, d2, d3] => { results := [.lit (.bool true)], args := [d1, d2, d3] }
  | _ => none }
def localHilbertRow : OpenClaim := { program := "ytakimeeakmlemaa", sum := "ec41992587eac98f977470f1934cee6cf732070e91b50ee381204e8341ab49fa", func := "plexus/plexuslaw22.LocalHilbert", spec := "localHilbert", inPlace := ["math.sqrt"], unfollowed := true, recurses := true, apart := false }
def LocalHilbertSaid : Prop := localHilbertRow.holds Try.pinned (OpenSpec.ofChange localHilbertSpec)

/-- ITS FALSE NEIGHBOUR: 'it returns false'. Refute it at one input. -/
def localHilbertWrong : ChangeSpec := { name := "localHilbert", fn := fun _ => fun
  | [d1, d2, d3] => { results := [.lit (.bool false)], args := [d1, d2, d3] }
  | _ => none }
def LocalHilbertWrongFalsely : Prop := localHilbertRow.holds Try.pinned (OpenSpec.ofChange localHilbertWrong)

/-- 'plexuslaw22.LocalAnswers': WHATEVER THE INPUT: true; the input reads as it did. -/
def localAnswersSpec : ChangeSpec := { name := "localAnswers", fn := fun _ => fun
  | [d1, d2] => { results := [.lit (.bool true)], args := [d1, d2] }
  | _ => none }
def localAnswersRow : OpenClaim := { program := "ytakimeeakmlemaa", sum := "ec41992587eac98f977470f1934cee6cf732070e91b50ee381204e8341ab49fa", func := "plexus/plexuslaw22.LocalAnswers", spec := "localAnswers", inPlace := ["math.sqrt"], unfollowed := true, recurses := true, apart := false }
def LocalAnswersSaid : Prop := localAnswersRow.holds Try.pinned (OpenSpec.ofChange localAnswersSpec)

/-- ITS FALSE NEIGHBOUR: 'it returns false'. Refute it at one input. -/
def localAnswersWrong : ChangeSpec := { name := "localAnswers", fn := fun _ => fun
  | [d1, d2] => { results := [.lit (.bool false)], args := [d1, d2] }
  | _ => none }
def LocalAnswersWrongFalsely : Prop := localAnswersRow.holds Try.pinned (OpenSpec.ofChange localAnswersWrong)

/-- 'plexuslaw22.LocalRefuses': WHATEVER THE INPUT: true; the input reads as it did. -/
def localRefusesSpec : ChangeSpec := { name := "localRefuses", fn := fun _ => fun
  | [d1, d2, d3] => { results := [.lit (.bool true)], args := [d1, d2, d3] }
  | _ => none }
def localRefusesRow : OpenClaim := { program := "ytakimeeakmlemaa", sum := "ec41992587eac98f977470f1934cee6cf732070e91b50ee381204e8341ab49fa", func := "plexus/plexuslaw22.LocalRefuses", spec := "localRefuses", inPlace := ["math.sqrt"], unfollowed := true, recurses := true, apart := false }
def LocalRefusesSaid : Prop := localRefusesRow.holds Try.pinned (OpenSpec.ofChange localRefusesSpec)

/-- ITS FALSE NEIGHBOUR: 'it returns false'. Refute it at one input. -/
def localRefusesWrong : ChangeSpec := { name := "localRefuses", fn := fun _ => fun
  | [d1, d2, d3] => { results := [.lit (.bool false)], args := [d1, d2, d3] }
  | _ => none }
def LocalRefusesWrongFalsely : Prop := localRefusesRow.holds Try.pinned (OpenSpec.ofChange localRefusesWrong)

/- THE SECOND FORM. 'bulk': how many values and letters a reading holds, each counted each time it is reached (what is shared counts as often as it is met; a slice's spare places count too). A statement '..UptoSaid' is the law's where the arguments, and the package variables that the reading takes, are together of bulk at most 1048576: NARROWER than '..Said'. Prove '..Said' where nothing that the law and all that it calls make is longer than what came in: it says more and counts as full. Else prove '..UptoSaid'. A law counts once. -/
mutual
def uptoBulk {H : Type} : DataW H → Nat
  | .lit (.string bytes) => bytes.length + 1
  | .lit _ => 1
  | .nil => 1
  | .ptr d => uptoBulk d + 1
  | .slice elems spare => uptoBulkAll elems + uptoBulkAll spare + 1
  | .agg parts => uptoBulkAll parts + 1
  | .iface _ d => uptoBulk d + 1
  | .map entries => uptoBulkEntries entries + 1
  | .held _ => 1
def uptoBulkAll {H : Type} : List (DataW H) → Nat
  | [] => 0
  | d :: r => uptoBulk d + uptoBulkAll r
def uptoBulkEntries {H : Type} : List (Lit × DataW H) → Nat
  | [] => 0
  | x :: r => uptoBulkEntry x + uptoBulkEntries r
def uptoBulkEntry {H : Type} : Lit × DataW H → Nat
  | (.string bytes, d) => bytes.length + uptoBulk d + 1
  | (_, d) => uptoBulk d + 1
 end
def uptoSmall : (H : Type) → List (DataW H) → Bool := fun _ ds => decide (uptoBulkAll ds ≤ 1048576)
def OpenSpec.upto (s : _root_.Go.ChangeSpec) : _root_.Go.OpenSpec := { _root_.Go.OpenSpec.ofChange s with cond := some uptoSmall }

/-- 'plexuslaw22.LocalMatchesReference', WHERE WHAT IT READS IS OF BULK AT MOST 1048576: true; the input reads as it did. -/
def localMatchesReferenceUptoRow : OpenClaim := { program := "ytakimeeakmlemaa", sum := "ec41992587eac98f977470f1934cee6cf732070e91b50ee381204e8341ab49fa", func := "plexus/plexuslaw22.LocalMatchesReference", spec := "localMatchesReference", inPlace := ["math.sqrt"], unfollowed := true, recurses := true, apart := false, narrowed := true }
def LocalMatchesReferenceUptoSaid : Prop := localMatchesReferenceUptoRow.holds Try.pinned (OpenSpec.upto localMatchesReferenceSpec)

/-- 'plexuslaw22.LocalLegendre', WHERE WHAT IT READS IS OF BULK AT MOST 1048576: true; the input reads as it did. -/
def localLegendreUptoRow : OpenClaim := { program := "ytakimeeakmlemaa", sum := "ec41992587eac98f977470f1934cee6cf732070e91b50ee381204e8341ab49fa", func := "plexus/plexuslaw22.LocalLegendre", spec := "localLegendre", inPlace := ["math.sqrt"], unfollowed := true, recurses := true, apart := false, narrowed := true }
def LocalLegendreUptoSaid : Prop := localLegendreUptoRow.holds Try.pinned (OpenSpec.upto localLegendreSpec)

/-- 'plexuslaw22.LocalFactors', WHERE WHAT IT READS IS OF BULK AT MOST 1048576: true; the input reads as it did. -/
def localFactorsUptoRow : OpenClaim := { program := "ytakimeeakmlemaa", sum := "ec41992587eac98f977470f1934cee6cf732070e91b50ee381204e8341ab49fa", func := "plexus/plexuslaw22.LocalFactors", spec := "localFactors", inPlace := ["math.sqrt"], unfollowed := true, recurses := true, apart := false, narrowed := true }
def LocalFactorsUptoSaid : Prop := localFactorsUptoRow.holds Try.pinned (OpenSpec.upto localFactorsSpec)

/-- 'plexuslaw22.LocalHilbert', WHERE WHAT IT READS IS OF BULK AT MOST 1048576: true; the input reads as it did. -/
def localHilbertUptoRow : OpenClaim := { program := "ytakimeeakmlemaa", sum := "ec41992587eac98f977470f1934cee6cf732070e91b50ee381204e8341ab49fa", func := "plexus/plexuslaw22.LocalHilbert", spec := "localHilbert", inPlace := ["math.sqrt"], unfollowed := true, recurses := true, apart := false, narrowed := true }
def LocalHilbertUptoSaid : Prop := localHilbertUptoRow.holds Try.pinned (OpenSpec.upto localHilbertSpec)

/-- 'plexuslaw22.LocalAnswers', WHERE WHAT IT READS IS OF BULK AT MOST 1048576: true; the input reads as it did. -/
def localAnswersUptoRow : OpenClaim := { program := "ytakimeeakmlemaa", sum := "ec41992587eac98f977470f1934cee6cf732070e91b50ee381204e8341ab49fa", func := "plexus/plexuslaw22.LocalAnswers", spec := "localAnswers", inPlace := ["math.sqrt"], unfollowed := true, recurses := true, apart := false, narrowed := true }
def LocalAnswersUptoSaid : Prop := localAnswersUptoRow.holds Try.pinned (OpenSpec.upto localAnswersSpec)

/-- 'plexuslaw22.LocalRefuses', WHERE WHAT IT READS IS OF BULK AT MOST 1048576: true; the input reads as it did. -/
def localRefusesUptoRow : OpenClaim := { program := "ytakimeeakmlemaa", sum := "ec41992587eac98f977470f1934cee6cf732070e91b50ee381204e8341ab49fa", func := "plexus/plexuslaw22.LocalRefuses", spec := "localRefuses", inPlace := ["math.sqrt"], unfollowed := true, recurses := true, apart := false, narrowed := true }
def LocalRefusesUptoSaid : Prop := localRefusesUptoRow.holds Try.pinned (OpenSpec.upto localRefusesSpec)

end Rows
end Go.Proofs.Ytakimeeakmlemaa
