/- The law that the row states of plexus/plexuslaw22.LocalMatchesReference: for every input the answer is true. Under no condition. -/
import Derived.Test.YtakimeeakmlemaaQM
import Derived.Test.YtakimeeakmlemaaVC
namespace Go.Proofs.Ytakimeeakmlemaa.Pure
set_option linter.unusedVariables false
set_option linter.unusedSimpArgs false
open Go Go.RowKit Go.Proofs.YtakimeeakmlemaaQ
open Go.Vx (K)
theorem i64_wf {a : Int} (h : (Lit.int .i64 a).wf = true) : -9223372036854775808 ≤ a ∧ a < 9223372036854775808 := by
  simp [Lit.wf, IntKind.min, IntKind.max, IntKind.signed, IntKind.bits] at h
  exact ⟨by omega, by omega⟩
abbrev kCl : K := K.pair K.bool (K.pair (K.pair (K.int IntKind.i64) (K.pair (K.int IntKind.i64) (K.int IntKind.i64))) (K.int IntKind.i64))
abbrev kMt : K := .pair (K.int IntKind.i64) (.pair (K.int IntKind.i64) (K.pair (K.pair K.bool (K.pair (K.pair (K.int IntKind.i64) (K.pair (K.int IntKind.i64) (K.int IntKind.i64))) (K.int IntKind.i64))) (K.pair K.bool (K.pair (K.pair (K.int IntKind.i64) (K.pair (K.int IntKind.i64) (K.int IntKind.i64))) (K.int IntKind.i64)))))
theorem LocalMatchesReference (x : kMt.T) (hx : Vx.WF kMt x) : ∃ k, V22.plexuslaw22_LocalMatchesReference.m k x.1 x.2.1 x.2.2 = some true := by
  obtain ⟨a, q, c⟩ := x
  obtain ⟨h0, h1⟩ := hx
  have hb := i64_wf h0
  exact (matches_of (a := a) (q := q) (a2 := c) hb.1 hb.2).rounds
end Go.Proofs.Ytakimeeakmlemaa.Pure
