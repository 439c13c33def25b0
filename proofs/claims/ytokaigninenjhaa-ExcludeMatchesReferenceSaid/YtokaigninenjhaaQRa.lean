/- Local: the solution that Solve finds. -/
import Derived.Test.YtokaigninenjhaaQSp
import Derived.Test.YtokaigninenjhaaQH
namespace Go.Proofs.YtokaigninenjhaaQ
set_option linter.unusedVariables false
set_option linter.unusedSimpArgs false
open Go Go.RowKit Go.Proofs.Ytokaigninenjhaa.P22 Go.Proofs.Ytokaigninenjhaa.V22 Go.Proofs.YtokaigninenjhaaW.PrintWords Go.Proofs.YtokaigninenjhaaW.PrintLast Go.Proofs.YtokaigninenjhaaW.PrintMore
theorem eqS_iff {a b x y z : Int} (ha : Lt a) (hb : Lt b) (hx : x.natAbs ≤ 1000) (hy : y.natAbs ≤ 1000) (hz : z.natAbs ≤ 10000) : eqS a b x y z = decide (z * z = a * x * x + b * y * y) := by
  have h1 := mulbd ha.abs hx
  have h2 := mulbd h1 hx
  have h3 := mulbd hb.abs hy
  have h4 := mulbd h3 hy
  have h5 := mulbd hz hz
  unfold eqS
  simp only [wrap_i64']
  rw [w64 (x := a * x) (by omega) (by omega), w64 (x := b * y) (by omega) (by omega), w64 (x := a * x * x) (by omega) (by omega), w64 (x := b * y * y) (by omega) (by omega), w64 (x := z * z) (by omega) (by omega), w64 (by omega) (by omega)]
  rw [Bool.eq_iff_iff, beq_iff_eq, decide_eq_true_iff]
theorem bd6_of {x : Int} (h : x.natAbs ≤ 1000000) : bd6 x = true := by
  unfold bd6
  rw [decide_eq_true (by omega), decide_eq_true (by omega)]; rfl
/-- The found solution. -/
structure Found (a b : Int) (x y : Nat) (z : Int) : Prop where
  hx : x ≤ 14
  hy : y ≤ 14
  hxy : 0 < x + y
  hz : 0 ≤ z ∧ z ≤ 800
  eq : z * z = a * (x : Int) * (x : Int) + b * (y : Int) * (y : Int)
theorem found_of {a b : Int} (ha : Lt a) (hb : Lt b) {w : Nat × Nat} (h : go0 a b 15 0 = some w) : Found a b w.1 w.2 (rt (nn a b w.1 w.2)) := by
  obtain ⟨h1, h2, h3, h4⟩ := go0_some h
  unfold goodB at h4
  rw [Bool.and_eq_true, decide_eq_true_eq] at h4
  obtain ⟨q1, q2, q3⟩ := sqB_rt h4.1
  have hb := nn_bd ha hb (x := w.1) (y := w.2) (by omega) (by omega)
  have hN : nn a b w.1 w.2 = a * (w.1 : Int) * (w.1 : Int) + b * (w.2 : Int) * (w.2 : Int) := rfl
  refine ⟨by omega, h3, h4.2, ⟨q3, ?_⟩, by rw [q2, hN]⟩
  rcases Int.lt_or_le 800 (rt (nn a b w.1 w.2)) with q | q
  rotate_left
  · exact q
  · exfalso
    have := Int.mul_le_mul (show (801 : Int) ≤ rt (nn a b w.1 w.2) by omega) (show (801 : Int) ≤ rt (nn a b w.1 w.2) by omega) (by decide) q3
    omega
theorem SolveC.cases {a b : Int} (ha : Lt a) (hb : Lt b) {c : Bool × (Int × Int × Int) × Int} (h : SolveC a b c) :
    (∃ p : Nat, c = (false, (0, 0, 0), (p : Int)) ∧ p ≤ 200 ∧ Rel p a b ∧ Hm p a b = -1 ∧ ∀ j < p, Rel j a b → Hm j a b ≠ -1) ∨ ((∀ j, Rel j a b → Hm j a b ≠ -1) ∧ ∃ (x y : Nat) (z : Int), Found a b x y z ∧ c = (true, ((x : Int), (y : Int), z), 0)) := by
  rcases h with h | ⟨h1, w, h2, h3⟩
  · exact .inl h
  · exact .inr ⟨h1, w.1, w.2, _, found_of ha hb h2, h3⟩
theorem SvB_eq {a b x y z : Int} (ha : Lt a) (hb : Lt b) (hx : x.natAbs ≤ 1000) (hy : y.natAbs ≤ 1000) (hz : z.natAbs ≤ 10000) (h0 : x ≠ 0 ∨ y ≠ 0) : SvB a b x y z = decide (z * z = a * x * x + b * y * y) := by
  unfold SvB
  rw [bd6_of (by omega), bd6_of (by omega), bd6_of (by omega), eqS_iff ha hb hx hy hz]
  rcases h0 with h | h
  · rw [show (x == 0) = false from by simpa using h]; simp
  · rw [show (y == 0) = false from by simpa using h]; simp
end Go.Proofs.YtokaigninenjhaaQ
