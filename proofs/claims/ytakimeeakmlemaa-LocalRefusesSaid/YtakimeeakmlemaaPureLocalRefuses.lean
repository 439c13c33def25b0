/- The law that the row states of plexus/plexuslaw22.LocalRefuses: for every input the answer is true. Under no condition. -/
import Derived.Test.YtakimeeakmlemaaQR
import Derived.Test.YtakimeeakmlemaaVC
namespace Go.Proofs.Ytakimeeakmlemaa.Pure
set_option linter.unusedVariables false
set_option linter.unusedSimpArgs false
open Go Go.RowKit Go.Proofs.YtakimeeakmlemaaQ
open Go.Vx (K)
theorem i8_wf {a : Int} (h : (Lit.int .i8 a).wf = true) : -128 ≤ a ∧ a < 128 := by
  simp [Lit.wf, IntKind.min, IntKind.max, IntKind.signed, IntKind.bits] at h
  exact ⟨by omega, by omega⟩
abbrev kRe : K := .pair (K.pair (K.int IntKind.i8) (K.int IntKind.i8)) (.pair (K.pair K.bool (K.pair (K.pair (K.int IntKind.i64) (K.pair (K.int IntKind.i64) (K.int IntKind.i64))) (K.int IntKind.i64))) (K.int IntKind.i64))
theorem LocalRefuses (x : kRe.T) (hx : Vx.WF kRe x) : ∃ k, V22.plexuslaw22_LocalRefuses.m k x.1 x.2.1 x.2.2 = some true := by
  obtain ⟨⟨u, v⟩, ⟨ok, ⟨x, y, z⟩, pl⟩, c⟩ := x
  obtain ⟨⟨h0, h1⟩, h2⟩ := hx
  exact (refuses_of (i8_wf h0) (i8_wf h1)).rounds
end Go.Proofs.Ytakimeeakmlemaa.Pure
