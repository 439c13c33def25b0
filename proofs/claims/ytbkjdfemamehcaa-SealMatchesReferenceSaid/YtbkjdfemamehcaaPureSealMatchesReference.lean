/- The law that the row states of plexus/plexuslaw03.SealMatchesReference: for every input the answer is true. Under no condition. -/
import Derived.Test.YtbkjdfemamehcaaQMa
import Derived.Test.YtbkjdfemamehcaaVC
namespace Go.Proofs.Ytbkjdfemamehcaa.Pure
set_option linter.unusedVariables false
set_option linter.unusedSimpArgs false
open Go Go.RowKit Go.Proofs.YtbkjdfemamehcaaW.PrintWords Go.Proofs.YtbkjdfemamehcaaW.PrintLast Go.Proofs.YtbkjdfemamehcaaW.PrintMore Go.Proofs.YtbkjdfemamehcaaQ
open Go.Vx (K)
theorem u8_wf {a : Int} (h : (Lit.int .u8 a).wf = true) : 0 ≤ a ∧ a < 256 := by
  simp [Lit.wf, IntKind.min, IntKind.max, IntKind.signed, IntKind.bits] at h
  exact ⟨by omega, by omega⟩
theorem u64_wf {a : Int} (h : (Lit.int .u64 a).wf = true) : 0 ≤ a ∧ a < 18446744073709551616 := by
  simp [Lit.wf, IntKind.min, IntKind.max, IntKind.signed, IntKind.bits] at h
  exact ⟨by omega, by omega⟩
theorem i64_wf {a : Int} (h : (Lit.int .i64 a).wf = true) : -9223372036854775808 ≤ a ∧ a < 9223372036854775808 := by
  simp [Lit.wf, IntKind.min, IntKind.max, IntKind.signed, IntKind.bits] at h
  exact ⟨by omega, by omega⟩
abbrev kMat : K := .pair (K.slice (K.int IntKind.i64)) (.pair (K.slice (K.int IntKind.u8)) (K.pair (K.int IntKind.u64) (K.pair (K.int IntKind.u64) (K.pair (K.pair (K.int IntKind.i64) (K.slice (K.int IntKind.u64))) (K.pair (K.int IntKind.i64) (K.int IntKind.u64))))))
theorem SealMatchesReference (x : kMat.T) (hx : Vx.WF kMat x) : ∃ k, V03.plexuslaw03_SealMatchesReference.m k x.1 x.2.1 x.2.2 = some true := by
  obtain ⟨l, b, z0, z1, ⟨z2, z3⟩, z4, z5⟩ := x
  obtain ⟨_, ⟨_, hb⟩, h0, h1, ⟨_, ⟨_, h3⟩⟩, _, h5⟩ := hx
  exact (matches_of (fun y hy => u8_wf (hb y hy)) (z := (z0, z1, (z2, z3), z4, z5)) (u64_wf h0) (u64_wf h1) (fun y hy => u64_wf (h3 y hy)) (u64_wf h5)).rounds
end Go.Proofs.Ytbkjdfemamehcaa.Pure
