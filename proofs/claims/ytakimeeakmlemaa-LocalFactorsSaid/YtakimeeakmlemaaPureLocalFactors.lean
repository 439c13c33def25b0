/- The law that the row states of plexus/plexuslaw22.LocalFactors: for every input the answer is true. Under no condition. -/
import Derived.Test.YtakimeeakmlemaaQFb
import Derived.Test.YtakimeeakmlemaaVC
namespace Go.Proofs.Ytakimeeakmlemaa.Pure
set_option linter.unusedVariables false
set_option linter.unusedSimpArgs false
open Go Go.RowKit Go.Proofs.YtakimeeakmlemaaQ
open Go.Vx (K)
theorem u16_wf {a : Int} (h : (Lit.int .u16 a).wf = true) : 0 ≤ a ∧ a < 65536 := by
  simp [Lit.wf, IntKind.min, IntKind.max, IntKind.signed, IntKind.bits] at h
  exact ⟨by omega, by omega⟩
abbrev kFa : K := .pair (K.int IntKind.i64) (K.int IntKind.u16)
theorem LocalFactors (x : kFa.T) (hx : Vx.WF kFa x) : ∃ k, V22.plexuslaw22_LocalFactors.m k x.1 x.2 = some true := by
  obtain ⟨n, m⟩ := x
  obtain ⟨h0, h1⟩ := hx
  exact (factors_of (n := n) (u16_wf h1)).rounds
end Go.Proofs.Ytakimeeakmlemaa.Pure
