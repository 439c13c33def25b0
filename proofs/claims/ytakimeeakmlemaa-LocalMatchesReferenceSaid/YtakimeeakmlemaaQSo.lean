/- Local: Check and Solve. -/
import Derived.Test.YtakimeeakmlemaaQS
import Derived.Test.YtakimeeakmlemaaX22R
namespace Go.Proofs.YtakimeeakmlemaaQ
set_option linter.unusedVariables false
set_option linter.unusedSimpArgs false
open Go Go.RowKit Go.Proofs.Ytakimeeakmlemaa.P22 Go.Proofs.Ytakimeeakmlemaa.V22 Go.Proofs.YtakimeeakmlemaaW.PrintWords Go.Proofs.YtakimeeakmlemaaW.PrintLast Go.Proofs.YtakimeeakmlemaaW.PrintMore
instance (a : Int) : Decidable (Lt a) := inferInstanceAs (Decidable (_ ∧ _ ∧ _))
theorem small_any (a : Int) : Ev (fun k => local_small.m k a) (decide (Lt a)) := by
  refine evX (fun k => local_small.m_eq k _) ?_
  by_cases h0 : a = 0
  · refine evF (nF h0) ?_
    rw [decide_eq_false (fun q : Lt a => q.1 h0)]; exact Ev.now _
  · refine evT (nT h0) ?_
    by_cases h1 : -200 ≤ a
    · refine evT (dT h1) ?_
      have e : decide (a ≤ 200) = decide (Lt a) := by
        by_cases h2 : a ≤ 200
        · rw [decide_eq_true h2, decide_eq_true (show Lt a from ⟨h0, h1, h2⟩)]
        · rw [decide_eq_false h2, decide_eq_false (fun q : Lt a => h2 q.2.2)]
      rw [← e]; exact Ev.now _
    · refine evF (dF h1) ?_
      rw [decide_eq_false (fun q : Lt a => h1 q.2.1)]; exact Ev.now _
/-! ### Check -/
def bd6 (x : Int) : Bool := decide (-1000000 ≤ x) && decide (x ≤ 1000000)
def eqS (a b x y z : Int) : Bool := IntKind.wrap IntKind.i64 (z * z) == IntKind.wrap IntKind.i64 (IntKind.wrap IntKind.i64 (IntKind.wrap IntKind.i64 (a * x) * x) + IntKind.wrap IntKind.i64 (IntKind.wrap IntKind.i64 (b * y) * y))
def SvB (a b x y z : Int) : Bool := bd6 x && (bd6 y && (bd6 z && (!(x == 0 && (y == 0 && z == 0)) && eqS a b x y z)))
theorem bd6_T {x : Int} (h : bd6 x = true) : -1000000 ≤ x ∧ x ≤ 1000000 := by
  unfold bd6 at h
  rw [Bool.and_eq_true, decide_eq_true_eq, decide_eq_true_eq] at h
  exact h
theorem bd6_F {x : Int} (h : ¬ bd6 x = true) : x < -1000000 ∨ x > 1000000 := by
  unfold bd6 at h
  rw [Bool.and_eq_true, decide_eq_true_eq, decide_eq_true_eq] at h
  omega
theorem chk3 (a b x y z q : Int) : Ev2 (fun n k => local_Check.l0 n k a b (true, (x, y, z), q) 3) (if (!(x == 0 && (y == 0 && z == 0)) && eqS a b x y z) = true then 0 else 6) := by
  refine Ev2.step (fun n k => local_Check.l0_succ n k _ _ _ _) (ev2F (dF (by show ¬ ((3 : Int) < ((3 : Nat) : Int)); decide)) ?_)
  show Ev2 (fun n k => if (x == 0 && (y == 0 && z == 0)) = true then some 6 else (if (IntKind.wrap IntKind.i64 (z * z) != IntKind.wrap IntKind.i64 (IntKind.wrap IntKind.i64 (IntKind.wrap IntKind.i64 (a * x) * x) + IntKind.wrap IntKind.i64 (IntKind.wrap IntKind.i64 (b * y) * y))) = true then some 6 else some 0)) _
  by_cases h : (x == 0 && (y == 0 && z == 0)) = true
  · rw [h]; exact ev2T rfl (Ev2.now _)
  · have h' : (x == 0 && (y == 0 && z == 0)) = false := by simpa using h
    rw [h']
    refine ev2F (by decide) ?_
    unfold eqS
    by_cases e : IntKind.wrap IntKind.i64 (z * z) = IntKind.wrap IntKind.i64 (IntKind.wrap IntKind.i64 (IntKind.wrap IntKind.i64 (a * x) * x) + IntKind.wrap IntKind.i64 (IntKind.wrap IntKind.i64 (b * y) * y))
    · rw [bT e]; exact ev2F (nF e) (Ev2.now _)
    · rw [show (IntKind.wrap IntKind.i64 (z * z) == IntKind.wrap IntKind.i64 (IntKind.wrap IntKind.i64 (IntKind.wrap IntKind.i64 (a * x) * x) + IntKind.wrap IntKind.i64 (IntKind.wrap IntKind.i64 (b * y) * y))) = false from by simpa using e]
      exact ev2T (nT e) (Ev2.now _)
theorem chk_step {a b x y z q : Int} {i : Nat} {w r : Int} (hi : i < 3) (hw : List.getD [x, y, z] i 0 = w) (h : Ev2 (fun n k => local_Check.l0 n k a b (true, (x, y, z), q) ((i + 1 : Nat) : Int)) r) : Ev2 (fun n k => local_Check.l0 n k a b (true, (x, y, z), q) (i : Int)) (if bd6 w = true then r else 6) := by
  refine Ev2.step (fun n k => local_Check.l0_succ n k _ _ _ _) ?_
  have hl : (i : Int) < ((List.length [x, y, z] : Nat) : Int) := by show (i : Int) < ((3 : Nat) : Int); omega
  refine ev2T (dT hl) (ev2T (by omega) (ev2T hl ?_))
  show Ev2 (fun n k => if decide (List.getD [x, y, z] (Int.toNat (i : Int)) (Int.ofNat 0) < -1000000) = true then some 6 else (if decide (List.getD [x, y, z] (Int.toNat (i : Int)) (Int.ofNat 0) > 1000000) = true then some 6 else local_Check.l0 n k a b (true, (x, y, z), q) (IntKind.wrap IntKind.i64 ((i : Int) + 1)))) _
  rw [Int.toNat_natCast, show List.getD [x, y, z] i (Int.ofNat 0) = w from hw]
  by_cases hb : bd6 w = true
  · obtain ⟨h1, h2⟩ := bd6_T hb
    rw [if_pos hb]
    refine ev2F (dF (by omega)) (ev2F (dF (by omega)) ?_)
    rw [show (i : Int) + 1 = ((i + 1 : Nat) : Int) by omega, i64n (by omega)]
    exact h
  · rw [if_neg hb]
    by_cases h1 : w < -1000000
    · exact ev2T (dT h1) (Ev2.now _)
    · exact ev2F (dF h1) (ev2T (dT (by have := bd6_F hb; omega)) (Ev2.now _))
theorem check_true {a b : Int} (ha : Lt a) (hb : Lt b) (x y z q : Int) : Ev (fun k => local_Check.m k a b (true, (x, y, z), q)) (if SvB a b x y z = true then 0 else 6) := by
  refine evX (fun k => local_Check.m_eq k _ _ _) (Ev.bind (small_e ha.1 ha.2.1 ha.2.2) (evF (by decide) (Ev.bind (small_e hb.1 hb.2.1 hb.2.2) (evF (by decide) (evF (by simp) ?_)))))
  have h := chk_step (i := 0) (by decide) rfl (chk_step (i := 1) (by decide) rfl (chk_step (i := 2) (by decide) rfl (chk3 a b x y z q)))
  have e : (if SvB a b x y z = true then (0 : Int) else 6) = (if bd6 x = true then if bd6 y = true then if bd6 z = true then if (!(x == 0 && (y == 0 && z == 0)) && eqS a b x y z) = true then 0 else 6 else 6 else 6 else 6) := by
    unfold SvB
    cases bd6 x <;> cases bd6 y <;> cases bd6 z <;> simp
  rw [e]
  exact h.diag
theorem check_false {a b : Int} (ha : Lt a) (hb : Lt b) (s : Int × Int × Int) (q : Int) : Ev (fun k => local_Check.m k a b (false, s, q)) (if (HA a b q).2 = 0 ∧ (HA a b q).1 = -1 then 0 else 6) := by
  refine evX (fun k => local_Check.m_eq k _ _ _) (Ev.bind (small_e ha.1 ha.2.1 ha.2.2) (evF (by decide) (Ev.bind (small_e hb.1 hb.2.1 hb.2.2) (evF (by decide) (evT rfl (Ev.bind (HilbertA_e ha hb) ?_))))))
  have e0 : (HA a b q).2 = 0 → (HA a b q).1 = -1 → (if (HA a b q).2 = 0 ∧ (HA a b q).1 = -1 then (0 : Int) else 6) = 0 := fun h1 h2 => if_pos ⟨h1, h2⟩
  have e1 : ¬ ((HA a b q).2 = 0 ∧ (HA a b q).1 = -1) → (if (HA a b q).2 = 0 ∧ (HA a b q).1 = -1 then (0 : Int) else 6) = 6 := fun h => if_neg h
  by_cases h1 : (HA a b q).2 = 0
  · refine evF (nF h1) ?_
    by_cases h2 : (HA a b q).1 = -1
    · rw [e0 h1 h2]; exact evF (nF h2) (Ev.now _)
    · rw [e1 (fun h => h2 h.2)]; exact evT (nT h2) (Ev.now _)
  · rw [e1 (fun h => h1 h.1)]; exact evT (nT h1) (Ev.now _)
theorem check_big {a b : Int} (h : ¬ Lt a ∨ ¬ Lt b) (c : Bool × (Int × Int × Int) × Int) : Ev (fun k => local_Check.m k a b c) 1 := by
  refine evX (fun k => local_Check.m_eq k _ _ _) (Ev.bind (small_any a) ?_)
  by_cases ha : Lt a
  · rw [decide_eq_true ha]
    refine evF (by decide) (Ev.bind (small_any b) ?_)
    rw [decide_eq_false (h.resolve_left (fun q => q ha))]
    exact evT rfl (Ev.now _)
  · rw [decide_eq_false ha]
    exact evT rfl (Ev.now _)
theorem solves_e (a b x y z : Int) : Ev (fun k => plexusref22_Solves.m k a b (x, y, z)) (SvB a b x y z) := by
  refine evX (fun k => plexusref22_Solves.m_eq k _ _ _) ?_
  show Ev (fun k => (if decide (x < IntKind.wrap IntKind.i64 (0 - 1000000)) = true then some (false) else (if decide (x > 1000000) = true then some (false) else (if decide (y < IntKind.wrap IntKind.i64 (0 - 1000000)) = true then some (false) else (if decide (y > 1000000) = true then some (false) else (if decide (z < IntKind.wrap IntKind.i64 (0 - 1000000)) = true then some (false) else (if (decide (z > 1000000)) = true then some (false) else (if (x != 0) = true then some (eqS a b x y z) else (if (y != 0) = true then some (eqS a b x y z) else (if (z != 0) = true then some (eqS a b x y z) else some (false))))))))))) _
  have e6 : IntKind.wrap IntKind.i64 (0 - 1000000) = -1000000 := by decide
  rw [e6]
  have bad : ∀ {w : Int} {f : Nat → Option Bool}, ¬ bd6 w = true → Ev (fun k => if decide (w < -1000000) = true then some false else (if decide (w > 1000000) = true then some false else f k)) false := fun {w f} hb => by
    by_cases h1 : w < -1000000
    · exact evT (dT h1) (Ev.now _)
    · exact evF (dF h1) (evT (dT (by have := bd6_F hb; omega)) (Ev.now _))
  have good : ∀ {w : Int} {f : Nat → Option Bool} {r : Bool}, bd6 w = true → Ev f r → Ev (fun k => if decide (w < -1000000) = true then some false else (if decide (w > 1000000) = true then some false else f k)) r := fun {w f r} hb h => by
    obtain ⟨h1, h2⟩ := bd6_T hb
    exact evF (dF (by omega)) (evF (dF (by omega)) h)
  unfold SvB
  by_cases hx : bd6 x = true
  · rw [hx]
    refine good hx ?_
    by_cases hy : bd6 y = true
    · rw [hy]
      refine good hy ?_
      by_cases hz : bd6 z = true
      · rw [hz]
        refine good hz ?_
        by_cases x0 : x = 0
        · refine evF (nF x0) ?_
          by_cases y0 : y = 0
          · refine evF (nF y0) ?_
            by_cases z0 : z = 0
            · refine evF (nF z0) ?_
              subst x0; subst y0; subst z0
              exact Ev.now _
            · refine evT (nT z0) ?_
              rw [show (z == 0) = false from by simpa using z0]; simp only [Bool.and_false, Bool.false_and, Bool.not_false, Bool.true_and]; exact Ev.now _
          · refine evT (nT y0) ?_
            rw [show (y == 0) = false from by simpa using y0]; simp only [Bool.and_false, Bool.false_and, Bool.not_false, Bool.true_and]; exact Ev.now _
        · refine evT (nT x0) ?_
          rw [show (x == 0) = false from by simpa using x0]; simp only [Bool.and_false, Bool.false_and, Bool.not_false, Bool.true_and]; exact Ev.now _
      · rw [show bd6 z = false from by simpa using hz]; exact bad hz
    · rw [show bd6 y = false from by simpa using hy]; exact bad hy
  · rw [show bd6 x = false from by simpa using hx]; exact bad hx
/-! ### Solve: the search -/
def nn (a b : Int) (x y : Nat) : Int := a * (x : Int) * (x : Int) + b * (y : Int) * (y : Int)
def goodB (a b : Int) (x y : Nat) : Bool := sqB (nn a b x y) && decide (0 < x + y)
def go1 (a b : Int) (x : Nat) : Nat → Nat → Option (Nat × Nat)
  | 0, _ => none
  | m + 1, y => if goodB a b x y = true then some (x, y) else go1 a b x m (y + 1)
def go0 (a b : Int) : Nat → Nat → Option (Nat × Nat)
  | 0, _ => none
  | m + 1, x => match go1 a b x 15 0 with
    | some w => some w
    | none => go0 a b m (x + 1)
def rt (n : Int) : Int := if n < 0 then 0 else (isq n.toNat : Int)
def resS (a b : Int) (w : Nat × Nat) : (Bool × (Int × Int × Int) × Int) × Int := ((true, ((w.1 : Int), (w.2 : Int), rt (nn a b w.1 w.2)), 0), 0)
theorem root_h {n : Int} (h0 : -9223372036854775808 ≤ n) (h1 : n < 9223372036854775808) : Ev (fun _ => cRoot.h n) (rt n, sqB n) := by
  refine ⟨0, fun k _ => ?_⟩
  rw [← cRoot.hid]
  unfold rootC rt
  rw [if_pos ⟨h0, h1⟩]
  unfold local_root.f sqB
  split <;> rfl
theorem mulbd {a b : Int} {A B : Nat} (h1 : a.natAbs ≤ A) (h2 : b.natAbs ≤ B) : (a * b).natAbs ≤ A * B := by
  rw [Int.natAbs_mul]; exact Nat.mul_le_mul h1 h2
theorem Lt.abs {a : Int} (h : Lt a) : a.natAbs ≤ 200 := by
  have := h.2.1; have := h.2.2; omega
theorem nn_bd {a b : Int} (ha : Lt a) (hb : Lt b) {x y : Nat} (hx : x ≤ 40) (hy : y ≤ 40) : (a * (x : Int)).natAbs ≤ 8000 ∧ (a * (x : Int) * (x : Int)).natAbs ≤ 320000 ∧ (b * (y : Int)).natAbs ≤ 8000 ∧ (b * (y : Int) * (y : Int)).natAbs ≤ 320000 := by
  have h1 := mulbd ha.abs (show ((x : Int)).natAbs ≤ 40 by omega)
  have h2 := mulbd h1 (show ((x : Int)).natAbs ≤ 40 by omega)
  have h3 := mulbd hb.abs (show ((y : Int)).natAbs ≤ 40 by omega)
  have h4 := mulbd h3 (show ((y : Int)).natAbs ≤ 40 by omega)
  exact ⟨h1, h2, h3, h4⟩
theorem nn_wrap {a b : Int} (ha : Lt a) (hb : Lt b) {x y : Nat} (hx : x ≤ 40) (hy : y ≤ 40) : IntKind.wrap IntKind.i64 (IntKind.wrap IntKind.i64 (IntKind.wrap IntKind.i64 (a * (x : Int)) * (x : Int)) + IntKind.wrap IntKind.i64 (IntKind.wrap IntKind.i64 (b * (y : Int)) * (y : Int))) = nn a b x y := by
  obtain ⟨h1, h2, h3, h4⟩ := nn_bd ha hb hx hy
  simp only [wrap_i64']
  rw [w64 (x := a * (x : Int)) (by omega) (by omega), w64 (x := b * (y : Int)) (by omega) (by omega), w64 (x := a * (x : Int) * (x : Int)) (by omega) (by omega), w64 (x := b * (y : Int) * (y : Int)) (by omega) (by omega), w64 (by omega) (by omega)]
  rfl
theorem solve_l1 {a b : Int} (ha : Lt a) (hb : Lt b) {x : Nat} (hx : x ≤ 14) {r : (Bool × (Int × Int × Int) × Int) × Int} :
    ∀ (m y : Nat), 15 - y = m → y ≤ 15 → (∀ w, go1 a b x m y = some w → r = resS a b w) → (go1 a b x m y = none → Ev2 (fun n k => local_Solve.l0 n k a b true 0 ((x + 1 : Nat) : Int)) r) → Ev3 (fun n1 n0 k => local_Solve.l1 n1 k n0 a b true 0 (x : Int) (y : Int)) r := by
  intro m
  induction m with
  | zero =>
    intro y hm hy h1 h2
    refine Ev3.step (fun n1 n0 k => local_Solve.l1_succ n1 k n0 _ _ _ _ _ _) (ev3F (dF (by omega)) ?_)
    rw [show (x : Int) + 1 = ((x + 1 : Nat) : Int) by omega, i64n (by omega)]
    exact Ev3.of (h2 rfl)
  | succ m ih =>
    intro y hm hy h1 h2
    obtain ⟨b1, b2, b3, b4⟩ := nn_bd ha hb (x := x) (y := y) (by omega) (by omega)
    have hN : nn a b x y = a * (x : Int) * (x : Int) + b * (y : Int) * (y : Int) := rfl
    refine Ev3.step (fun n1 n0 k => local_Solve.l1_succ n1 k n0 _ _ _ _ _ _) (ev3T (dT (by omega)) ?_)
    rw [nn_wrap ha hb (by omega) (by omega)]
    refine Ev3.bind (root_h (n := nn a b x y) (by omega) (by omega)) ?_
    have j1 : ∀ v5 : Bool, goodB a b x y = v5 → Ev3 (fun n1 n0 k => local_Solve.j1 k n0 n1 a b true 0 (x : Int) (y : Int) (rt (nn a b x y), sqB (nn a b x y)) v5) r := fun v5 hv => by
      refine Ev3.congr (fun n1 n0 k => local_Solve.j1_eq k n0 n1 _ _ _ _ _ _ _ _) ?_
      cases v5 with
      | true =>
        refine ev3T rfl ?_
        have := h1 (x, y) (by unfold go1; rw [if_pos hv])
        rw [this]
        exact Ev3.now _
      | false =>
        refine ev3F (by decide) ?_
        have hv' : ¬ goodB a b x y = true := by rw [hv]; decide
        rw [show (y : Int) + 1 = ((y + 1 : Nat) : Int) by omega, i64n (by omega)]
        refine ih (y + 1) (by omega) (by omega) (fun w hw => h1 w (by unfold go1; rw [if_neg hv']; exact hw)) (fun hw => h2 (by unfold go1; rw [if_neg hv']; exact hw))
    have ew : decide (IntKind.wrap IntKind.i64 ((x : Int) + (y : Int)) > 0) = decide (0 < x + y) := by
      rw [← Int.natCast_add, i64n (by omega), Bool.eq_iff_iff, decide_eq_true_iff, decide_eq_true_iff]; omega
    show Ev3 (fun n1 n0 k => if sqB (nn a b x y) = true then local_Solve.j1 k n0 n1 a b true 0 (x : Int) (y : Int) (rt (nn a b x y), sqB (nn a b x y)) (decide (IntKind.wrap IntKind.i64 ((x : Int) + (y : Int)) > 0)) else local_Solve.j1 k n0 n1 a b true 0 (x : Int) (y : Int) (rt (nn a b x y), sqB (nn a b x y)) false) r
    by_cases hs : sqB (nn a b x y) = true
    · refine ev3T hs (j1 _ ?_)
      unfold goodB
      rw [hs, ew, Bool.true_and]
    · refine ev3F hs (j1 _ ?_)
      unfold goodB
      rw [show sqB (nn a b x y) = false from by simpa using hs, Bool.false_and]
theorem solve_some {a b : Int} (ha : Lt a) (hb : Lt b) {x : Nat} (hx : x ≤ 14) {r : (Bool × (Int × Int × Int) × Int) × Int} (m y : Nat) (hm : 15 - y = m) (hy : y ≤ 15) {w : Nat × Nat} (hg : go1 a b x m y = some w) (hr : r = resS a b w) : Ev3 (fun n1 n0 k => local_Solve.l1 n1 k n0 a b true 0 (x : Int) (y : Int)) r :=
  solve_l1 ha hb hx m y hm hy (fun w' hw' => by rw [hg] at hw'; cases hw'; exact hr) (fun hn => by rw [hg] at hn; cases hn)
theorem solve_l0 {a b : Int} (ha : Lt a) (hb : Lt b) {r : (Bool × (Int × Int × Int) × Int) × Int} :
    ∀ (m x : Nat), 15 - x = m → x ≤ 15 → (∀ w, go0 a b m x = some w → r = resS a b w) → (go0 a b m x = none → r = ((true, (0, 0, 0), 0), 0)) → Ev2 (fun n k => local_Solve.l0 n k a b true 0 (x : Int)) r := by
  intro m
  induction m with
  | zero =>
    intro x hm hx h1 h2
    refine Ev2.step (fun n k => local_Solve.l0_succ n k _ _ _ _ _) (ev2F (dF (by omega)) ?_)
    rw [h2 rfl]
    exact Ev2.now _
  | succ m ih =>
    intro x hm hx h1 h2
    refine Ev2.step (fun n k => local_Solve.l0_succ n k _ _ _ _ _) (ev2T (dT (by omega)) ?_)
    cases hg : go1 a b x 15 0 with
    | some w =>
      have hr := h1 w (by unfold go0; rw [hg])
      exact (solve_some ha hb (by omega) 15 0 rfl (by decide) hg hr).diag
    | none =>
      have hn := ih (x + 1) (by omega) (by omega) (fun w hw => h1 w (by unfold go0; rw [hg]; exact hw)) (fun hw => h2 (by unfold go0; rw [hg]; exact hw))
      exact (solve_l1 ha hb (by omega) 15 0 rfl (by decide) (fun w hw => by rw [hg] at hw; cases hw) (fun _ => hn)).diag
end Go.Proofs.YtakimeeakmlemaaQ
