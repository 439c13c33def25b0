/- The law that the row states of plexus/plexuslaw47.PrivateBinds: for every input the answer is true. Under no condition. -/
import Derived.Test.YtchpkglnmpmcmaaQBn
import Derived.Test.YtchpkglnmpmcmaaQEz
import Derived.Test.YtchpkglnmpmcmaaVC
namespace Go.Proofs.Ytchpkglnmpmcmaa.Pure
set_option linter.unusedVariables false
set_option linter.unusedSimpArgs false
open Go Go.RowKit Go.Proofs.YtchpkglnmpmcmaaW.PrintWords Go.Proofs.YtchpkglnmpmcmaaW.PrintLast Go.Proofs.YtchpkglnmpmcmaaW.PrintMore Go.Proofs.YtchpkglnmpmcmaaQ
open Go.Vx (K)
theorem u8_wf {a : Int} (h : (Lit.int .u8 a).wf = true) : BY a := by
  simp [Lit.wf, IntKind.min, IntKind.max, IntKind.signed, IntKind.bits] at h
  exact ⟨by omega, by omega⟩
theorem u64_wf {a : Int} (h : (Lit.int .u64 a).wf = true) : U a := by
  simp [Lit.wf, IntKind.min, IntKind.max, IntKind.signed, IntKind.bits] at h
  exact ⟨by omega, by omega⟩
abbrev bK : K := K.pair (K.slice (K.int IntKind.u8)) (K.pair (K.pair (K.int IntKind.u8) (K.pair (K.int IntKind.u8) (K.pair (K.int IntKind.u8) (K.int IntKind.u8)))) (K.int IntKind.u64))
theorem PrivateBinds (x : bK.T) (hx : Vx.WF bK x) : ∃ k, V47.plexuslaw47_PrivateBinds.m k x.1 x.2.1 x.2.2 = some true := by
  obtain ⟨j, ⟨z0, z1, z2, z3⟩, y⟩ := x
  obtain ⟨⟨_, hj⟩, ⟨h0, h1, h2, h3⟩, h4⟩ := hx
  exact (binds_of examples_f (fun y hy => u8_wf (hj y hy)) (a1 := (z0, z1, z2, z3)) (u8_wf h0) (u8_wf h1) (u8_wf h2) (u8_wf h3) (u64_wf h4)).rounds
end Go.Proofs.Ytchpkglnmpmcmaa.Pure
