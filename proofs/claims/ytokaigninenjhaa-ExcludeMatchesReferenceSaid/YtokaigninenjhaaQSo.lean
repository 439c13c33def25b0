/- Local: Check and Solve. -/
import Derived.Test.YtokaigninenjhaaQS
import Derived.Test.YtokaigninenjhaaX22R
namespace Go.Proofs.YtokaigninenjhaaQ
set_option linter.unusedVariables false
set_option linter.unusedSimpArgs false
open Go Go.RowKit Go.Proofs.Ytokaigninenjhaa.P22 Go.Proofs.Ytokaigninenjhaa.V22 Go.Proofs.YtokaigninenjhaaW.PrintWords Go.Proofs.YtokaigninenjhaaW.PrintLast Go.Proofs.YtokaigninenjhaaW.PrintMore
instance (a : Int) : Decidable (Lt a) := inferInstanceAs (Decidable (_ ∧ _ ∧ _))
theorem small_any (a : Int) : Ev (fun k => local_small.m k a) (decide (Lt a)) := by
  refine evX (fun k => local_small.m_eq k _) ?_
  by_cases h0 : a = 0
  · refine evF (nF h0) ?_
    rw [decide_eq_false (fun q : Lt a => q.1 h0)]; exact Ev.now _
  · refine evT (nT h0) ?_
    by_cases h1 : -200 ≤ a
    · refine evT (dT h1) ?_
      have e : decide (a ≤ 200) = decide (Lt a) := by
        by_cases h2 : a ≤ 200
        · rw [decide_eq_true h2, decide_eq_true (show Lt a from ⟨h0, h1, h2⟩)]
        · rw [decide_eq_false h2, decide_eq_false (fun q : Lt a => h2 q.2.2)]
      rw [← e]; exact Ev.now _
    · refine evF (dF h1) ?_
      rw [decide_eq_false (fun q : Lt a => h1 q.2.1)]; exact Ev.now _
/-! ### Check -/
def bd6 (x : Int) : Bool := decide (-1000000 ≤ x) && decide (x ≤ 1000000)
def eqS (a b x y z : Int) : Bool := IntKind.wrap IntKind.i64 (z * z) == IntKind.wrap IntKind.i64 (IntKind.wrap IntKind.i64 (IntKind.wrap IntKind.i64 (a * x) * x) + IntKind.wrap IntKind.i64 (IntKind.wrap IntKind.i64 (b * y) * y))
def SvB (a b x y z : Int) : Bool := bd6 x && (bd6 y && (bd6 z && (!(x == 0 && (y == 0 && z == 0)) && eqS a b x y z)))
theorem bd6_T {x : Int} (h : bd6 x = true) : -1000000 ≤ x ∧ x ≤ 1000000 := by
  unfold bd6 at h
  rw [Bool.and_eq_true, decide_eq_true_eq, decide_eq_true_eq] at h
  exact h
theorem bd6_F {x : Int} (h : ¬ bd6 x = true) : x < -1000000 ∨ x > 1000000 := by
  unfold bd6 at h
  rw [Bool.and_eq_true, decide_eq_true_eq, decide_eq_true_eq] at h
  omega
/-! ### Solve: the search -/
def nn (a b : Int) (x y : Nat) : Int := a * (x : Int) * (x : Int) + b * (y : Int) * (y : Int)
def goodB (a b : Int) (x y : Nat) : Bool := sqB (nn a b x y) && decide (0 < x + y)
def go1 (a b : Int) (x : Nat) : Nat → Nat → Option (Nat × Nat)
  | 0, _ => none
  | m + 1, y => if goodB a b x y = true then some (x, y) else go1 a b x m (y + 1)
def go0 (a b : Int) : Nat → Nat → Option (Nat × Nat)
  | 0, _ => none
  | m + 1, x => match go1 a b x 15 0 with
    | some w => some w
    | none => go0 a b m (x + 1)
def rt (n : Int) : Int := if n < 0 then 0 else (isq n.toNat : Int)
def resS (a b : Int) (w : Nat × Nat) : (Bool × (Int × Int × Int) × Int) × Int := ((true, ((w.1 : Int), (w.2 : Int), rt (nn a b w.1 w.2)), 0), 0)
theorem root_h {n : Int} (h0 : -9223372036854775808 ≤ n) (h1 : n < 9223372036854775808) : Ev (fun _ => cRoot.h n) (rt n, sqB n) := by
  refine ⟨0, fun k _ => ?_⟩
  rw [← cRoot.hid]
  unfold rootC rt
  rw [if_pos ⟨h0, h1⟩]
  unfold local_root.f sqB
  split <;> rfl
theorem mulbd {a b : Int} {A B : Nat} (h1 : a.natAbs ≤ A) (h2 : b.natAbs ≤ B) : (a * b).natAbs ≤ A * B := by
  rw [Int.natAbs_mul]; exact Nat.mul_le_mul h1 h2
theorem Lt.abs {a : Int} (h : Lt a) : a.natAbs ≤ 200 := by
  have := h.2.1; have := h.2.2; omega
theorem nn_bd {a b : Int} (ha : Lt a) (hb : Lt b) {x y : Nat} (hx : x ≤ 40) (hy : y ≤ 40) : (a * (x : Int)).natAbs ≤ 8000 ∧ (a * (x : Int) * (x : Int)).natAbs ≤ 320000 ∧ (b * (y : Int)).natAbs ≤ 8000 ∧ (b * (y : Int) * (y : Int)).natAbs ≤ 320000 := by
  have h1 := mulbd ha.abs (show ((x : Int)).natAbs ≤ 40 by omega)
  have h2 := mulbd h1 (show ((x : Int)).natAbs ≤ 40 by omega)
  have h3 := mulbd hb.abs (show ((y : Int)).natAbs ≤ 40 by omega)
  have h4 := mulbd h3 (show ((y : Int)).natAbs ≤ 40 by omega)
  exact ⟨h1, h2, h3, h4⟩
theorem nn_wrap {a b : Int} (ha : Lt a) (hb : Lt b) {x y : Nat} (hx : x ≤ 40) (hy : y ≤ 40) : IntKind.wrap IntKind.i64 (IntKind.wrap IntKind.i64 (IntKind.wrap IntKind.i64 (a * (x : Int)) * (x : Int)) + IntKind.wrap IntKind.i64 (IntKind.wrap IntKind.i64 (b * (y : Int)) * (y : Int))) = nn a b x y := by
  obtain ⟨h1, h2, h3, h4⟩ := nn_bd ha hb hx hy
  simp only [wrap_i64']
  rw [w64 (x := a * (x : Int)) (by omega) (by omega), w64 (x := b * (y : Int)) (by omega) (by omega), w64 (x := a * (x : Int) * (x : Int)) (by omega) (by omega), w64 (x := b * (y : Int) * (y : Int)) (by omega) (by omega), w64 (by omega) (by omega)]
  rfl
theorem solve_l1 {a b : Int} (ha : Lt a) (hb : Lt b) {x : Nat} (hx : x ≤ 14) {r : (Bool × (Int × Int × Int) × Int) × Int} :
    ∀ (m y : Nat), 15 - y = m → y ≤ 15 → (∀ w, go1 a b x m y = some w → r = resS a b w) → (go1 a b x m y = none → Ev2 (fun n k => local_Solve.l0 n k a b true 0 ((x + 1 : Nat) : Int)) r) → Ev3 (fun n1 n0 k => local_Solve.l1 n1 k n0 a b true 0 (x : Int) (y : Int)) r := by
  intro m
  induction m with
  | zero =>
    intro y hm hy h1 h2
    refine Ev3.step (fun n1 n0 k => local_Solve.l1_succ n1 k n0 _ _ _ _ _ _) (ev3F (dF (by omega)) ?_)
    rw [show (x : Int) + 1 = ((x + 1 : Nat) : Int) by omega, i64n (by omega)]
    exact Ev3.of (h2 rfl)
  | succ m ih =>
    intro y hm hy h1 h2
    obtain ⟨b1, b2, b3, b4⟩ := nn_bd ha hb (x := x) (y := y) (by omega) (by omega)
    have hN : nn a b x y = a * (x : Int) * (x : Int) + b * (y : Int) * (y : Int) := rfl
    refine Ev3.step (fun n1 n0 k => local_Solve.l1_succ n1 k n0 _ _ _ _ _ _) (ev3T (dT (by omega)) ?_)
    rw [nn_wrap ha hb (by omega) (by omega)]
    refine Ev3.bind (root_h (n := nn a b x y) (by omega) (by omega)) ?_
    have j1 : ∀ v5 : Bool, goodB a b x y = v5 → Ev3 (fun n1 n0 k => local_Solve.j1 k n0 n1 a b true 0 (x : Int) (y : Int) (rt (nn a b x y), sqB (nn a b x y)) v5) r := fun v5 hv => by
      refine Ev3.congr (fun n1 n0 k => local_Solve.j1_eq k n0 n1 _ _ _ _ _ _ _ _) ?_
      cases v5 with
      | true =>
        refine ev3T rfl ?_
        have := h1 (x, y) (by unfold go1; rw [if_pos hv])
        rw [this]
        exact Ev3.now _
      | false =>
        refine ev3F (by decide) ?_
        have hv' : ¬ goodB a b x y = true := by rw [hv]; decide
        rw [show (y : Int) + 1 = ((y + 1 : Nat) : Int) by omega, i64n (by omega)]
        refine ih (y + 1) (by omega) (by omega) (fun w hw => h1 w (by unfold go1; rw [if_neg hv']; exact hw)) (fun hw => h2 (by unfold go1; rw [if_neg hv']; exact hw))
    have ew : decide (IntKind.wrap IntKind.i64 ((x : Int) + (y : Int)) > 0) = decide (0 < x + y) := by
      rw [← Int.natCast_add, i64n (by omega), Bool.eq_iff_iff, decide_eq_true_iff, decide_eq_true_iff]; omega
    show Ev3 (fun n1 n0 k => if sqB (nn a b x y) = true then local_Solve.j1 k n0 n1 a b true 0 (x : Int) (y : Int) (rt (nn a b x y), sqB (nn a b x y)) (decide (IntKind.wrap IntKind.i64 ((x : Int) + (y : Int)) > 0)) else local_Solve.j1 k n0 n1 a b true 0 (x : Int) (y : Int) (rt (nn a b x y), sqB (nn a b x y)) false) r
    by_cases hs : sqB (nn a b x y) = true
    · refine ev3T hs (j1 _ ?_)
      unfold goodB
      rw [hs, ew, Bool.true_and]
    · refine ev3F hs (j1 _ ?_)
      unfold goodB
      rw [show sqB (nn a b x y) = false from by simpa using hs, Bool.false_and]
theorem solve_some {a b : Int} (ha : Lt a) (hb : Lt b) {x : Nat} (hx : x ≤ 14) {r : (Bool × (Int × Int × Int) × Int) × Int} (m y : Nat) (hm : 15 - y = m) (hy : y ≤ 15) {w : Nat × Nat} (hg : go1 a b x m y = some w) (hr : r = resS a b w) : Ev3 (fun n1 n0 k => local_Solve.l1 n1 k n0 a b true 0 (x : Int) (y : Int)) r :=
  solve_l1 ha hb hx m y hm hy (fun w' hw' => by rw [hg] at hw'; cases hw'; exact hr) (fun hn => by rw [hg] at hn; cases hn)
theorem solve_l0 {a b : Int} (ha : Lt a) (hb : Lt b) {r : (Bool × (Int × Int × Int) × Int) × Int} :
    ∀ (m x : Nat), 15 - x = m → x ≤ 15 → (∀ w, go0 a b m x = some w → r = resS a b w) → (go0 a b m x = none → r = ((true, (0, 0, 0), 0), 0)) → Ev2 (fun n k => local_Solve.l0 n k a b true 0 (x : Int)) r := by
  intro m
  induction m with
  | zero =>
    intro x hm hx h1 h2
    refine Ev2.step (fun n k => local_Solve.l0_succ n k _ _ _ _ _) (ev2F (dF (by omega)) ?_)
    rw [h2 rfl]
    exact Ev2.now _
  | succ m ih =>
    intro x hm hx h1 h2
    refine Ev2.step (fun n k => local_Solve.l0_succ n k _ _ _ _ _) (ev2T (dT (by omega)) ?_)
    cases hg : go1 a b x 15 0 with
    | some w =>
      have hr := h1 w (by unfold go0; rw [hg])
      exact (solve_some ha hb (by omega) 15 0 rfl (by decide) hg hr).diag
    | none =>
      have hn := ih (x + 1) (by omega) (by omega) (fun w hw => h1 w (by unfold go0; rw [hg]; exact hw)) (fun hw => h2 (by unfold go0; rw [hg]; exact hw))
      exact (solve_l1 ha hb (by omega) 15 0 rfl (by decide) (fun w hw => by rw [hg] at hw; cases hw) (fun _ => hn)).diag
end Go.Proofs.YtokaigninenjhaaQ
