/- The law that the row states of plexus/plexuslaw22.LocalLegendre: for every input the answer is true. Under no condition. -/
import Derived.Test.YtakimeeakmlemaaQLe
import Derived.Test.YtakimeeakmlemaaVC
namespace Go.Proofs.Ytakimeeakmlemaa.Pure
set_option linter.unusedVariables false
set_option linter.unusedSimpArgs false
open Go Go.RowKit Go.Proofs.YtakimeeakmlemaaQ
open Go.Vx (K)
theorem u8_wf {a : Int} (h : (Lit.int .u8 a).wf = true) : 0 ≤ a ∧ a < 256 := by
  simp [Lit.wf, IntKind.min, IntKind.max, IntKind.signed, IntKind.bits] at h
  exact ⟨by omega, by omega⟩
theorem i16_wf {a : Int} (h : (Lit.int .i16 a).wf = true) : -32768 ≤ a ∧ a < 32768 := by
  simp [Lit.wf, IntKind.min, IntKind.max, IntKind.signed, IntKind.bits] at h
  exact ⟨by omega, by omega⟩
abbrev kLe : K := .pair (K.int IntKind.u8) (.pair (K.int IntKind.i16) (K.int IntKind.i16))
theorem LocalLegendre (x : kLe.T) (hx : Vx.WF kLe x) : ∃ k, V22.plexuslaw22_LocalLegendre.m k x.1 x.2.1 x.2.2 = some true := by
  obtain ⟨n, a, b⟩ := x
  obtain ⟨h0, h1, h2⟩ := hx
  exact (legendre_of (u8_wf h0) (i16_wf h1) (i16_wf h2)).rounds
end Go.Proofs.Ytakimeeakmlemaa.Pure
