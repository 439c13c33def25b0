/- More of what the functions of seal's reference compute: lists that are the same, halves, sides, and steps up. -/
import Derived.Test.YtcanekmlabehgaaP03x5
import Derived.Test.YtcanekmlabehgaaQSeal
namespace Go.Proofs.YtcanekmlabehgaaQ
set_option linter.unusedVariables false
set_option linter.unusedSimpArgs false
open Go.RowKit Go.Proofs.Ytcanekmlabehgaa.P03 Go.Proofs.YtcanekmlabehgaaW.PrintWords Go.Proofs.YtcanekmlabehgaaW.PrintLast Go.Proofs.YtcanekmlabehgaaW.PrintMore
theorem seal03_exs : Ev (fun k => plexuslaw03_examples.f k) true := Ev.of (fun k => plexuslaw03_examples.mono k) (show plexuslaw03_examples.f 100 = some true by kernel_rfl)
theorem u_wf {a : Int} (h : (Lit.int .u64 a).wf = true) : U a := by
  simp [Lit.wf, IntKind.min, IntKind.max, IntKind.signed, IntKind.bits] at h
  exact ⟨by omega, by omega⟩
theorem u16_wf {a : Int} (h : (Lit.int .u16 a).wf = true) : ∃ n : Nat, a = n ∧ n < 65536 := by
  simp [Lit.wf, IntKind.min, IntKind.max, IntKind.signed, IntKind.bits] at h
  exact ⟨a.toNat, by omega, by omega⟩
theorem rd_getD (l : List Int) (i : Nat) : rd l (i : Int) = l.getD i 0 := by simp [rd]
theorem tmod_cast (a b : Nat) : Int.tmod (a : Int) (b : Int) = ((a % b : Nat) : Int) := by rw [Int.tmod_eq_emod_of_nonneg (by omega)]; omega
theorem same_l0 (l : List Int) (hl : l.length ≤ 1000000) : ∀ (m i : Nat), l.length - i = m → Ev (fun k => plexusref03_Same.l0 k l l (i : Int)) true
  | 0, i, h => by
    refine Ev.step (fun k => by rw [plexusref03_Same.l0]) ?_
    exact evF (by omega) (Ev.now _)
  | m + 1, i, h => by
    refine Ev.step (fun k => by rw [plexusref03_Same.l0]) ?_
    refine evT (by omega) (evT (by omega) (evT (by omega) (evT rfl ?_)))
    rw [w64 (x := (i : Int) + 1) (by omega) (by omega), show (i : Int) + 1 = ((i + 1 : Nat) : Int) by omega]
    exact same_l0 l hl m (i + 1) (by omega)
theorem same_f (l : List Int) (hl : l.length ≤ 1000000) : Ev (fun k => plexusref03_Same.f k l l) true := by
  unfold plexusref03_Same.f
  exact evT rfl (same_l0 l hl _ 0 rfl)
end Go.Proofs.YtcanekmlabehgaaQ
