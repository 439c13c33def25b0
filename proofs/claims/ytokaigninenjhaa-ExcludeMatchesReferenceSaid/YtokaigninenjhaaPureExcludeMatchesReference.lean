/- The law that the row states of plexus/plexuslaw24.ExcludeMatchesReference: for every input the answer is true. Under no condition. -/
import Derived.Test.YtokaigninenjhaaQXk
import Derived.Test.YtokaigninenjhaaVC
namespace Go.Proofs.Ytokaigninenjhaa.Pure
set_option linter.unusedVariables false
set_option linter.unusedSimpArgs false
open Go Go.RowKit Go.Proofs.YtokaigninenjhaaQ
open Go.Vx (K)
theorem u8_wf {a : Int} (h : (Lit.int .u8 a).wf = true) : 0 ≤ a ∧ a < 256 := by
  simp [Lit.wf, IntKind.min, IntKind.max, IntKind.signed, IntKind.bits] at h
  exact ⟨by omega, by omega⟩
abbrev kArg : K := .pair (.pair (K.int IntKind.u8) (.pair (K.int IntKind.u8) (.pair (K.int IntKind.u8) (K.int IntKind.u8)))) (.pair (.pair (K.int IntKind.i64) (.pair (K.int IntKind.i64) (.pair (K.int IntKind.i64) (K.int IntKind.i64)))) (.pair (K.int IntKind.i64) (.pair (K.int IntKind.i64) (K.int IntKind.i64))))
theorem ExcludeMatchesReference (x : kArg.T) (hx : Vx.WF kArg x) : ∃ k, V22.plexuslaw24_ExcludeMatchesReference.m k x.1 x.2.1 x.2.2 = some true := by
  have hb := u8_wf (hx.1.2.2.1)
  exact (ref_of hb.1 hb.2).rounds
end Go.Proofs.Ytokaigninenjhaa.Pure
