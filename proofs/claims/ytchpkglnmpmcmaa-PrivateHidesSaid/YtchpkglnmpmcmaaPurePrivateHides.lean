/- The law that the row states of plexus/plexuslaw47.PrivateHides: for every input the answer is true. Under no condition. -/
import Derived.Test.YtchpkglnmpmcmaaQHi
import Derived.Test.YtchpkglnmpmcmaaQEz
import Derived.Test.YtchpkglnmpmcmaaVC
namespace Go.Proofs.Ytchpkglnmpmcmaa.Pure
set_option linter.unusedVariables false
set_option linter.unusedSimpArgs false
open Go Go.RowKit Go.Proofs.YtchpkglnmpmcmaaW.PrintWords Go.Proofs.YtchpkglnmpmcmaaW.PrintLast Go.Proofs.YtchpkglnmpmcmaaW.PrintMore Go.Proofs.YtchpkglnmpmcmaaQ
open Go.Vx (K)
theorem u8_wf {a : Int} (h : (Lit.int .u8 a).wf = true) : BY a := by
  simp [Lit.wf, IntKind.min, IntKind.max, IntKind.signed, IntKind.bits] at h
  exact ⟨by omega, by omega⟩
theorem i64_wf {a : Int} (h : (Lit.int .i64 a).wf = true) : S a := by
  simp [Lit.wf, IntKind.min, IntKind.max, IntKind.signed, IntKind.bits] at h
  exact ⟨by omega, by omega⟩
abbrev hK : K := K.pair (K.slice (K.int IntKind.u8)) (K.pair (K.slice (K.int IntKind.u8)) (K.pair (K.int IntKind.i64) (K.int IntKind.i64)))
theorem PrivateHides (x : hK.T) (hx : Vx.WF hK x) : ∃ k, V47.plexuslaw47_PrivateHides.m k x.1 x.2.1 x.2.2 = some true := by
  obtain ⟨i, j, s, t⟩ := x
  obtain ⟨⟨_, hi⟩, ⟨_, hj⟩, h2, h3⟩ := hx
  exact (hides_of examples_f (fun y hy => u8_wf (hi y hy)) (fun y hy => u8_wf (hj y hy)) (a2 := (s, t)) (i64_wf h2) (i64_wf h3)).rounds
end Go.Proofs.Ytchpkglnmpmcmaa.Pure
