/- The law that the row states of plexus/plexuslaw47.PrivateMatchesReference: for every input the answer is true. Under no condition. -/
import Derived.Test.YtchpkglnmpmcmaaQMt
import Derived.Test.YtchpkglnmpmcmaaQZ
import Derived.Test.YtchpkglnmpmcmaaVC
namespace Go.Proofs.Ytchpkglnmpmcmaa.Pure
set_option linter.unusedVariables false
set_option linter.unusedSimpArgs false
open Go Go.RowKit Go.Proofs.YtchpkglnmpmcmaaW.PrintWords Go.Proofs.YtchpkglnmpmcmaaW.PrintLast Go.Proofs.YtchpkglnmpmcmaaW.PrintMore Go.Proofs.YtchpkglnmpmcmaaQ
open Go.Vx (K)
theorem u8_wf {a : Int} (h : (Lit.int .u8 a).wf = true) : BY a := by
  simp [Lit.wf, IntKind.min, IntKind.max, IntKind.signed, IntKind.bits] at h
  exact ⟨by omega, by omega⟩
theorem i64_wf {a : Int} (h : (Lit.int .i64 a).wf = true) : S a := by
  simp [Lit.wf, IntKind.min, IntKind.max, IntKind.signed, IntKind.bits] at h
  exact ⟨by omega, by omega⟩
abbrev mK : K := K.pair (K.slice (K.int IntKind.u8)) (K.pair (K.pair (K.int IntKind.i64) (K.pair (K.int IntKind.i64) (K.pair (K.int IntKind.i64) (K.int IntKind.i64)))) (K.slice (K.int IntKind.i64)))
theorem PrivateMatchesReference (x : mK.T) (hx : Vx.WF mK x) : ∃ k, V47.plexuslaw47_PrivateMatchesReference.m k x.1 x.2.1 x.2.2 = some true := by
  obtain ⟨i, ⟨s, z1, z2, z3⟩, l⟩ := x
  obtain ⟨⟨_, hi⟩, ⟨h0, _⟩, ⟨_, hl⟩⟩ := hx
  exact (matches_of examples_f (fun y hy => u8_wf (hi y hy)) (a1 := (s, z1, z2, z3)) (i64_wf h0) (fun y hy => i64_wf (hl y hy))).rounds
end Go.Proofs.Ytchpkglnmpmcmaa.Pure
