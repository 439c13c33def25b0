/- The law that the row states of plexus/plexuslaw22.LocalHilbert: for every input the answer is true. Under no condition. -/
import Derived.Test.YtakimeeakmlemaaQHc
import Derived.Test.YtakimeeakmlemaaVC
namespace Go.Proofs.Ytakimeeakmlemaa.Pure
set_option linter.unusedVariables false
set_option linter.unusedSimpArgs false
open Go Go.RowKit Go.Proofs.YtakimeeakmlemaaQ
open Go.Vx (K)
theorem u8_wf {a : Int} (h : (Lit.int .u8 a).wf = true) : 0 ≤ a ∧ a < 256 := by
  simp [Lit.wf, IntKind.min, IntKind.max, IntKind.signed, IntKind.bits] at h
  exact ⟨by omega, by omega⟩
theorem i8_wf {a : Int} (h : (Lit.int .i8 a).wf = true) : -128 ≤ a ∧ a < 128 := by
  simp [Lit.wf, IntKind.min, IntKind.max, IntKind.signed, IntKind.bits] at h
  exact ⟨by omega, by omega⟩
abbrev kHi : K := .pair (K.pair (K.int IntKind.i8) (K.pair (K.int IntKind.i8) (K.int IntKind.i8))) (.pair (K.int IntKind.u8) (K.int IntKind.i8))
theorem LocalHilbert (x : kHi.T) (hx : Vx.WF kHi x) : ∃ k, V22.plexuslaw22_LocalHilbert.m k x.1 x.2.1 x.2.2 = some true := by
  obtain ⟨⟨x, y, d⟩, n, c⟩ := x
  obtain ⟨⟨h0, h1, h2⟩, h3, h4⟩ := hx
  exact (hilbert_of (i8_wf h0) (i8_wf h1) (i8_wf h2) (u8_wf h3) (i8_wf h4)).rounds
end Go.Proofs.Ytakimeeakmlemaa.Pure
