/- The law that the row states of plexus/plexuslaw24.ExcludeOpen: for every input the answer is true. Under no condition. -/
import Derived.Test.YtokaigninenjhaaQXj
import Derived.Test.YtokaigninenjhaaVC
namespace Go.Proofs.Ytokaigninenjhaa.Pure
set_option linter.unusedVariables false
set_option linter.unusedSimpArgs false
open Go Go.RowKit Go.Proofs.YtokaigninenjhaaQ
open Go.Vx (K)
theorem u8_wf {a : Int} (h : (Lit.int .u8 a).wf = true) : 0 ≤ a ∧ a < 256 := by
  simp [Lit.wf, IntKind.min, IntKind.max, IntKind.signed, IntKind.bits] at h
  exact ⟨by omega, by omega⟩
abbrev kArg : K := (.pair (K.int IntKind.u8) (.pair (K.int IntKind.u8) (.pair (K.int IntKind.u8) (K.int IntKind.u8))))
theorem ExcludeOpen (x : kArg.T) (hx : Vx.WF kArg x) : ∃ k, V22.plexuslaw24_ExcludeOpen.m k x = some true := by
  have hb := u8_wf (hx.2.2.1)
  exact (opens_of hb.1 hb.2).rounds
end Go.Proofs.Ytokaigninenjhaa.Pure
