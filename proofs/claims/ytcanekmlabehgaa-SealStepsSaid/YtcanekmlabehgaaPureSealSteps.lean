/- The law that the row states of plexus/plexuslaw03.SealSteps: for every input the answer is true. Under no condition. -/
import Derived.Test.YtcanekmlabehgaaP03x5
import Derived.Test.YtcanekmlabehgaaQStep
namespace Go.Proofs.Ytcanekmlabehgaa.Pure
set_option linter.unusedVariables false
set_option linter.unusedSimpArgs false
open Go.RowKit Go.Proofs.Ytcanekmlabehgaa.P03 Go.Proofs.YtcanekmlabehgaaW.PrintWords Go.Proofs.YtcanekmlabehgaaW.PrintLast Go.Proofs.YtcanekmlabehgaaQ
theorem seal_exs : Ev (fun k => plexuslaw03_examples.f k) true := Ev.of (fun k => plexuslaw03_examples.mono k) (show plexuslaw03_examples.f 100 = some true by kernel_rfl)
theorem seal_u64 {a : Int} (h : (Lit.int .u64 a).wf = true) : ∃ n : Nat, a = n ∧ n < 2 ^ 64 := by
  simp [Lit.wf, IntKind.min, IntKind.max, IntKind.signed, IntKind.bits] at h
  exact ⟨a.toNat, by omega, by omega⟩
theorem SealSteps : plexuslaw03_SealSteps.Pure := by
  intro a b c ha hb hc
  obtain ⟨A, rfl, hA⟩ := seal_u64 ha
  obtain ⟨B, rfl, hB⟩ := seal_u64 hb
  obtain ⟨C, rfl, hC⟩ := seal_u64 hc
  refine Ev.rounds (r := true) ?_
  unfold plexuslaw03_SealSteps.f
  refine Ev.bind seal_exs ?_
  simp only [if_true, step_f hA hB, step_f hA hC, step_f hC hB, Option.bind_some]
  have h1 := back_f hA (stepN_lt A B)
  rw [back_step hA hB] at h1
  refine Ev.bind h1 ?_
  simp only [if_true]
  refine Ev.bind (back_f hA hC) ?_
  simp only [step_f hA (backN_lt hA), Option.bind_some, step_back hA hC, if_true]
  have e1 : ((((stepN A C : Nat) : Int) == ((stepN A B : Nat) : Int)) == ((B : Int) == (C : Int))) = true := by
    have := stepN_inj hA hC hB
    by_cases h : B = C
    · subst h; simp
    · have h2 : ¬ stepN A C = stepN A B := fun e => h (this.1 e).symm
      have h3 : (((stepN A C : Nat) : Int) == ((stepN A B : Nat) : Int)) = false := by rw [beq_eq_false_iff_ne]; omega
      have h4 : ((B : Int) == (C : Int)) = false := by rw [beq_eq_false_iff_ne]; omega
      rw [h3, h4]; rfl
  have e2 : ((((stepN C B : Nat) : Int) == ((stepN A B : Nat) : Int)) == ((A : Int) == (C : Int))) = true := by
    have := stepN_inj hB hC hA
    rw [stepN_comm B C, stepN_comm B A] at this
    by_cases h : A = C
    · subst h; simp
    · have h2 : ¬ stepN C B = stepN A B := fun e => h (this.1 e).symm
      have h3 : (((stepN C B : Nat) : Int) == ((stepN A B : Nat) : Int)) = false := by rw [beq_eq_false_iff_ne]; omega
      have h4 : ((A : Int) == (C : Int)) = false := by rw [beq_eq_false_iff_ne]; omega
      rw [h3, h4]; rfl
  rw [e1, e2]
  simp only [if_true]
  exact Ev.now _
end Go.Proofs.Ytcanekmlabehgaa.Pure
