/-
  No cell of these rows narrows 'for every input' (looked for: loops, veiled, ifaces, maps, wideKeys, modest, calm, conditions, laid).
  DERIVED. THE GIVEN ROWS OF THIS SEAT. 6 by the template 'for every input the law returns true; each argument reads behind the call as it read before'; 0 by the template 'total and deterministic' (their statements: YtokaigninenjhaaTotals.lean).
  GIVEN WITH THE SEED: the statements are not yours to turn. If you find one false, say at which input.
  Laid BY PROGRAM, IN A SANDBOX (cutbox-rows.mjs): the forced cells as the released guide's own fill.sh prints them over the translation d3d748d73e0dd853… (all of the seat's roots in one cut). By AI agents, Wed Nov 11 2026. No macro, syntax, notation, axiom, sorry.
-/
import Derived.Test.YtokaigninenjhaaChecked
import GoSem.Claim
import GoSem.ClaimJoined
import GoSem.ClaimMapViews
import Derived.JoinedTies
import Derived.KernelRfl
namespace Go.Proofs.Ytokaigninenjhaa
/- THE CELL 'sum', in the pinned program and in every row, IS THE sha256 OF THE DUMP (.gsa) THAT YtokaigninenjhaaProg.lean LOADS. Nothing in Lean hashes anything: it is a label: what it is worth is what the hold of that sum in a sandbox is worth. -/
noncomputable def Try.pinned : Pinned := { name := "ytokaigninenjhaa", sum := "d3d748d73e0dd8535aaa5fdf798c6ba952c6996bc0872e8420aa18f233aaa821", checked := Try.checked }
namespace Rows
def none {H : Type} : Left H := { results := [], args := [] }

/-- 'plexuslaw24.ExcludeMatchesReference': WHATEVER THE INPUT: true; the input reads as it did. -/
def excludeMatchesReferenceSpec : ChangeSpec := { name := "excludeMatchesReference", fn := fun _ => fun
  | [d1, d2, d3] => { results := [.lit (.bool true)], args := [d1, d2, d3] }
  | _ => none }
def excludeMatchesReferenceRow : OpenClaim := { program := "ytokaigninenjhaa", sum := "d3d748d73e0dd8535aaa5fdf798c6ba952c6996bc0872e8420aa18f233aaa821", func := "plexus/plexuslaw24.ExcludeMatchesReference", spec := "excludeMatchesReference", inPlace := ["math.sqrt"], unfollowed := true, recurses := true, apart := false }
def ExcludeMatchesReferenceSaid : Prop := excludeMatchesReferenceRow.holds Try.pinned (OpenSpec.ofChange excludeMatchesReferenceSpec)

/-- ITS FALSE NEIGHBOUR: 'it returns false'. Refute it at one input. -/
def excludeMatchesReferenceWrong : ChangeSpec := { name := "excludeMatchesReference", fn := fun _ => fun
  | [d1, d2, d3] => { results := [.lit (.bool false)], args := [d1, d2, d3] }
  | _ => none }
def ExcludeMatchesReferenceWrongFalsely : Prop := excludeMatchesReferenceRow.holds Try.pinned (OpenSpec.ofChange excludeMatchesReferenceWrong)

/-- 'plexuslaw24.ExcludeFirst': WHATEVER THE INPUT: true; the input reads as it did. -/
def excludeFirstSpec : ChangeSpec := { name := "excludeFirst", fn := fun _ => fun
  | [d] => { results := [.lit (.bool true)], args := [d] }
  | _ => none }
def excludeFirstRow : OpenClaim := { program := "ytokaigninenjhaa", sum := "d3d748d73e0dd8535aaa5fdf798c6ba952c6996bc0872e8420aa18f233aaa821", func := "plexus/plexuslaw24.ExcludeFirst", spec := "excludeFirst", inPlace := ["math.sqrt"], unfollowed := true, recurses := true, apart := false }
def ExcludeFirstSaid : Prop := excludeFirstRow.holds Try.pinned (OpenSpec.ofChange excludeFirstSpec)

/-- ITS FALSE NEIGHBOUR: 'it returns false'. Refute it at one input. -/
def excludeFirstWrong : ChangeSpec := { name := "excludeFirst", fn := fun _ => fun
  | [d] => { results := [.lit (.bool false)], args := [d] }
  | _ => none }
def ExcludeFirstWrongFalsely : Prop := excludeFirstRow.holds Try.pinned (OpenSpec.ofChange excludeFirstWrong)

/-- 'plexuslaw24.ExcludeComplements': WHATEVER THE INPUT: true; the input reads as it did. -/
def excludeComplementsSpec : ChangeSpec := { name := "excludeComplements", fn := fun _ => fun
  | [d1, d2] => { results := [.lit (.bool true)], args := [d1, d2] }
  | _ => none }
def excludeComplementsRow : OpenClaim := { program := "ytokaigninenjhaa", sum := "d3d748d73e0dd8535aaa5fdf798c6ba952c6996bc0872e8420aa18f233aaa821", func := "plexus/plexuslaw24.ExcludeComplements", spec := "excludeComplements", inPlace := ["math.sqrt"], unfollowed := true, recurses := true, apart := false }
def ExcludeComplementsSaid : Prop := excludeComplementsRow.holds Try.pinned (OpenSpec.ofChange excludeComplementsSpec)

/-- ITS FALSE NEIGHBOUR: 'it returns false'. Refute it at one input. -/
def excludeComplementsWrong : ChangeSpec := { name := "excludeComplements", fn := fun _ => fun
  | [d1, d2] => { results := [.lit (.bool false)], args := [d1, d2] }
  | _ => none }
def ExcludeComplementsWrongFalsely : Prop := excludeComplementsRow.holds Try.pinned (OpenSpec.ofChange excludeComplementsWrong)

/-- 'plexuslaw24.ExcludeEquation': WHATEVER THE INPUT: true; the input reads as it did. -/
def excludeEquationSpec : ChangeSpec := { name := "excludeEquation", fn := fun _ => fun
  | [d1, d2] => { results := [.lit (.bool true)], args := [d1, d2] }
  | _ => none }
def excludeEquationRow : OpenClaim := { program := "ytokaigninenjhaa", sum := "d3d748d73e0dd8535aaa5fdf798c6ba952c6996bc0872e8420aa18f233aaa821", func := "plexus/plexuslaw24.ExcludeEquation", spec := "excludeEquation", inPlace := ["math.sqrt"], unfollowed := true, recurses := true, apart := false }
def ExcludeEquationSaid : Prop := excludeEquationRow.holds Try.pinned (OpenSpec.ofChange excludeEquationSpec)

/-- ITS FALSE NEIGHBOUR: 'it returns false'. Refute it at one input. -/
def excludeEquationWrong : ChangeSpec := { name := "excludeEquation", fn := fun _ => fun
  | [d1, d2] => { results := [.lit (.bool false)], args := [d1, d2] }
  | _ => none }
def ExcludeEquationWrongFalsely : Prop := excludeEquationRow.holds Try.pinned (OpenSpec.ofChange excludeEquationWrong)

/-- 'plexuslaw24.ExcludeOpen': WHATEVER THE INPUT: true; the input reads as it did. -/
def excludeOpenSpec : ChangeSpec := { name := "excludeOpen", fn := fun _ => fun
  | [d] => { results := [.lit (.bool true)], args := [d] }
  | _ => none }
def excludeOpenRow : OpenClaim := { program := "ytokaigninenjhaa", sum := "d3d748d73e0dd8535aaa5fdf798c6ba952c6996bc0872e8420aa18f233aaa821", func := "plexus/plexuslaw24.ExcludeOpen", spec := "excludeOpen", inPlace := ["math.sqrt"], unfollowed := true, recurses := true, apart := false }
def ExcludeOpenSaid : Prop := excludeOpenRow.holds Try.pinned (OpenSpec.ofChange excludeOpenSpec)

/-- ITS FALSE NEIGHBOUR: 'it returns false'. Refute it at one input. -/
def excludeOpenWrong : ChangeSpec := { name := "excludeOpen", fn := fun _ => fun
  | [d] => { results := [.lit (.bool false)], args := [d] }
  | _ => none }
def ExcludeOpenWrongFalsely : Prop := excludeOpenRow.holds Try.pinned (OpenSpec.ofChange excludeOpenWrong)

/-- 'plexuslaw24.ExcludeSound': WHATEVER THE INPUT: true; the input reads as it did. -/
def excludeSoundSpec : ChangeSpec := { name := "excludeSound", fn := fun _ => fun
  | [d1, d2] => { results := [.lit (.bool true)], args := [d1, d2] }
  | _ => none }
def excludeSoundRow : OpenClaim := { program := "ytokaigninenjhaa", sum := "d3d748d73e0dd8535aaa5fdf798c6ba952c6996bc0872e8420aa18f233aaa821", func := "plexus/plexuslaw24.ExcludeSound", spec := "excludeSound", inPlace := ["math.sqrt"], unfollowed := true, recurses := true, apart := false }
def ExcludeSoundSaid : Prop := excludeSoundRow.holds Try.pinned (OpenSpec.ofChange excludeSoundSpec)

/-- ITS FALSE NEIGHBOUR: 'it returns false'. Refute it at one input. -/
def excludeSoundWrong : ChangeSpec := { name := "excludeSound", fn := fun _ => fun
  | [d1, d2] => { results := [.lit (.bool false)], args := [d1, d2] }
  | _ => none }
def ExcludeSoundWrongFalsely : Prop := excludeSoundRow.holds Try.pinned (OpenSpec.ofChange excludeSoundWrong)

/- THE SECOND FORM. 'bulk': how many values and letters a reading holds, each counted each time it is reached (what is shared counts as often as it is met; a slice's spare places count too). A statement '..UptoSaid' is the law's where the arguments, and the package variables that the reading takes, are together of bulk at most 1048576: NARROWER than '..Said'. Prove '..Said' where nothing that the law and all that it calls make is longer than what came in: it says more and counts as full. Else prove '..UptoSaid'. A law counts once. -/
mutual
def uptoBulk {H : Type} : DataW H → Nat
  | .lit (.string bytes) => bytes.length + 1
  | .lit _ => 1
  | .nil => 1
  | .ptr d => uptoBulk d + 1
  | .slice elems spare => uptoBulkAll elems + uptoBulkAll spare + 1
  | .agg parts => uptoBulkAll parts + 1
  | .iface _ d => uptoBulk d + 1
  | .map entries => uptoBulkEntries entries + 1
  | .held _ => 1
def uptoBulkAll {H : Type} : List (DataW H) → Nat
  | [] => 0
  | d :: r => uptoBulk d + uptoBulkAll r
def uptoBulkEntries {H : Type} : List (Lit × DataW H) → Nat
  | [] => 0
  | x :: r => uptoBulkEntry x + uptoBulkEntries r
def uptoBulkEntry {H : Type} : Lit × DataW H → Nat
  | (.string bytes, d) => bytes.length + uptoBulk d + 1
  | (_, d) => uptoBulk d + 1
 end
def uptoSmall : (H : Type) → List (DataW H) → Bool := fun _ ds => decide (uptoBulkAll ds ≤ 1048576)
def OpenSpec.upto (s : _root_.Go.ChangeSpec) : _root_.Go.OpenSpec := { _root_.Go.OpenSpec.ofChange s with cond := some uptoSmall }

/-- 'plexuslaw24.ExcludeMatchesReference', WHERE WHAT IT READS IS OF BULK AT MOST 1048576: true; the input reads as it did. -/
def excludeMatchesReferenceUptoRow : OpenClaim := { program := "ytokaigninenjhaa", sum := "d3d748d73e0dd8535aaa5fdf798c6ba952c6996bc0872e8420aa18f233aaa821", func := "plexus/plexuslaw24.ExcludeMatchesReference", spec := "excludeMatchesReference", inPlace := ["math.sqrt"], unfollowed := true, recurses := true, apart := false, narrowed := true }
def ExcludeMatchesReferenceUptoSaid : Prop := excludeMatchesReferenceUptoRow.holds Try.pinned (OpenSpec.upto excludeMatchesReferenceSpec)

/-- 'plexuslaw24.ExcludeFirst', WHERE WHAT IT READS IS OF BULK AT MOST 1048576: true; the input reads as it did. -/
def excludeFirstUptoRow : OpenClaim := { program := "ytokaigninenjhaa", sum := "d3d748d73e0dd8535aaa5fdf798c6ba952c6996bc0872e8420aa18f233aaa821", func := "plexus/plexuslaw24.ExcludeFirst", spec := "excludeFirst", inPlace := ["math.sqrt"], unfollowed := true, recurses := true, apart := false, narrowed := true }
def ExcludeFirstUptoSaid : Prop := excludeFirstUptoRow.holds Try.pinned (OpenSpec.upto excludeFirstSpec)

/-- 'plexuslaw24.ExcludeComplements', WHERE WHAT IT READS IS OF BULK AT MOST 1048576: true; the input reads as it did. -/
def excludeComplementsUptoRow : OpenClaim := { program := "ytokaigninenjhaa", sum := "d3d748d73e0dd8535aaa5fdf798c6ba952c6996bc0872e8420aa18f233aaa821", func := "plexus/plexuslaw24.ExcludeComplements", spec := "excludeComplements", inPlace := ["math.sqrt"], unfollowed := true, recurses := true, apart := false, narrowed := true }
def ExcludeComplementsUptoSaid : Prop := excludeComplementsUptoRow.holds Try.pinned (OpenSpec.upto excludeComplementsSpec)

/-- 'plexuslaw24.ExcludeEquation', WHERE WHAT IT READS IS OF BULK AT MOST 1048576: true; the input reads as it did. -/
def excludeEquationUptoRow : OpenClaim := { program := "ytokaigninenjhaa", sum := "d3d748d73e0dd8535aaa5fdf798c6ba952c6996bc0872e8420aa18f233aaa821", func := "plexus/plexuslaw24.ExcludeEquation", spec := "excludeEquation", inPlace := ["math.sqrt"], unfollowed := true, recurses := true, apart := false, narrowed := true }
def ExcludeEquationUptoSaid : Prop := excludeEquationUptoRow.holds Try.pinned (OpenSpec.upto excludeEquationSpec)

/-- 'plexuslaw24.ExcludeOpen', WHERE WHAT IT READS IS OF BULK AT MOST 1048576: true; the input reads as it did. -/
def excludeOpenUptoRow : OpenClaim := { program := "ytokaigninenjhaa", sum := "d3d748d73e0dd8535aaa5fdf798c6ba952c6996bc0872e8420aa18f233aaa821", func := "plexus/plexuslaw24.ExcludeOpen", spec := "excludeOpen", inPlace := ["math.sqrt"], unfollowed := true, recurses := true, apart := false, narrowed := true }
def ExcludeOpenUptoSaid : Prop := excludeOpenUptoRow.holds Try.pinned (OpenSpec.upto excludeOpenSpec)

/-- 'plexuslaw24.ExcludeSound', WHERE WHAT IT READS IS OF BULK AT MOST 1048576: true; the input reads as it did. -/
def excludeSoundUptoRow : OpenClaim := { program := "ytokaigninenjhaa", sum := "d3d748d73e0dd8535aaa5fdf798c6ba952c6996bc0872e8420aa18f233aaa821", func := "plexus/plexuslaw24.ExcludeSound", spec := "excludeSound", inPlace := ["math.sqrt"], unfollowed := true, recurses := true, apart := false, narrowed := true }
def ExcludeSoundUptoSaid : Prop := excludeSoundUptoRow.holds Try.pinned (OpenSpec.upto excludeSoundSpec)

end Rows
end Go.Proofs.Ytokaigninenjhaa
