/- LocalMatchesReference: Solve and Check of both. -/
import Derived.Test.YtakimeeakmlemaaQMc
namespace Go.Proofs.YtakimeeakmlemaaQ
set_option linter.unusedVariables false
set_option linter.unusedSimpArgs false
open Go Go.RowKit Go.Proofs.Ytakimeeakmlemaa.P22 Go.Proofs.Ytakimeeakmlemaa.V22 Go.Proofs.YtakimeeakmlemaaW.PrintWords Go.Proofs.YtakimeeakmlemaaW.PrintLast Go.Proofs.YtakimeeakmlemaaW.PrintMore
theorem rt_root {n : Int} (h0 : 0 ≤ n) (h1 : n < 9223372036854775808) : Ev (fun k => plexusref22_Root.m k n) (rt n) := by
  obtain ⟨m, rfl⟩ := Int.eq_ofNat_of_zero_le h0
  have := rroot_e (n := m) (by omega)
  unfold rt
  rw [if_neg (by omega), Int.toNat_natCast]
  exact this
theorem rsolve_l1 {a b : Int} (ha : Lt a) (hb : Lt b) {x : Nat} (hx : x ≤ 14) {r : (Bool × (Int × Int × Int) × Int) × Int} :
    ∀ (m y : Nat), 15 - y = m → y ≤ 15 → (∀ w, go1 a b x m y = some w → r = resS a b w) → (go1 a b x m y = none → Ev2 (fun n k => plexusref22_Solve.l0 n k a b ((x + 1 : Nat) : Int)) r) → Ev3 (fun n1 n0 k => plexusref22_Solve.l1 n1 k n0 a b (x : Int) (y : Int)) r := by
  intro m
  induction m with
  | zero =>
    intro y hm hy h1 h2
    refine Ev3.step (fun n1 n0 k => plexusref22_Solve.l1_succ n1 k n0 _ _ _ _) (ev3F (dF (by omega)) ?_)
    rw [i64s (by omega)]
    exact Ev3.of (h2 rfl)
  | succ m ih =>
    intro y hm hy h1 h2
    obtain ⟨b1, b2, b3, b4⟩ := nn_bd ha hb (x := x) (y := y) (by omega) (by omega)
    have hN : nn a b x y = a * (x : Int) * (x : Int) + b * (y : Int) * (y : Int) := rfl
    have hw := nn_wrap ha hb (x := x) (y := y) (by omega) (by omega)
    have j0 : ∀ v5 : Bool, goodB a b x y = v5 → Ev3 (fun n1 n0 k => plexusref22_Solve.j0 k n0 n1 a b (x : Int) (y : Int) v5) r := fun v5 hv => by
      refine Ev3.congr (fun n1 n0 k => plexusref22_Solve.j0_eq k n0 n1 _ _ _ _ _) ?_
      cases v5 with
      | true =>
        rw [hw]
        have hv2 := hv
        unfold goodB at hv2
        rw [Bool.and_eq_true] at hv2
        obtain ⟨q1, q2, q3⟩ := sqB_rt hv2.1
        have := h1 (x, y) (by unfold go1; rw [if_pos hv])
        rw [this]
        exact ev3T rfl (Ev3.bind (rt_root q1 (by omega)) (Ev3.now _))
      | false =>
        refine ev3F (by decide) ?_
        have hv' : ¬ goodB a b x y = true := by rw [hv]; decide
        rw [i64s (by omega)]
        refine ih (y + 1) (by omega) (by omega) (fun w hw => h1 w (by unfold go1; rw [if_neg hv']; exact hw)) (fun hw => h2 (by unfold go1; rw [if_neg hv']; exact hw))
    refine Ev3.step (fun n1 n0 k => plexusref22_Solve.l1_succ n1 k n0 _ _ _ _) (ev3T (dT (by omega)) ?_)
    rw [hw, ← Int.natCast_add, i64n (by omega)]
    by_cases hxy : 0 < x + y
    · refine ev3T (dT (by omega)) (Ev3.bind (rsquare_e (n := nn a b x y) (by omega)) (j0 _ ?_))
      unfold goodB
      rw [decide_eq_true hxy, Bool.and_true]
    · refine ev3F (dF (by omega)) (j0 _ ?_)
      unfold goodB
      rw [decide_eq_false hxy, Bool.and_false]
theorem rsolve_l0 {a b : Int} (ha : Lt a) (hb : Lt b) {r : (Bool × (Int × Int × Int) × Int) × Int} :
    ∀ (m x : Nat), 15 - x = m → x ≤ 15 → (∀ w, go0 a b m x = some w → r = resS a b w) → (go0 a b m x = none → Ev (fun k => plexusref22_Solve.l2 k k a b 0) r) → Ev2 (fun n k => plexusref22_Solve.l0 n k a b (x : Int)) r := by
  intro m
  induction m with
  | zero =>
    intro x hm hx h1 h2
    exact Ev2.step (fun n k => plexusref22_Solve.l0_succ n k _ _ _) (ev2F (dF (by omega)) (Ev2.of (h2 rfl)))
  | succ m ih =>
    intro x hm hx h1 h2
    refine Ev2.step (fun n k => plexusref22_Solve.l0_succ n k _ _ _) (ev2T (dT (by omega)) ?_)
    cases hg : go1 a b x 15 0 with
    | some w =>
      have hr := h1 w (by unfold go0; rw [hg])
      exact (rsolve_l1 ha hb (by omega) 15 0 rfl (by decide) (fun w' hw' => by rw [hg] at hw'; cases hw'; exact hr) (fun hn => by rw [hg] at hn; cases hn)).diag
    | none =>
      have hn := ih (x + 1) (by omega) (by omega) (fun w hw => h1 w (by unfold go0; rw [hg]; exact hw)) (fun hw => h2 (by unfold go0; rw [hg]; exact hw))
      exact (rsolve_l1 ha hb (by omega) 15 0 rfl (by decide) (fun w hw => by rw [hg] at hw; cases hw) (fun _ => hn)).diag
theorem rsolve_l2 {a b : Int} (ha : Lt a) (hb : Lt b) {p : Nat} (hr : Rel p a b) (hm1 : Hm p a b = -1) (hj : ∀ j < p, Rel j a b → Hm j a b ≠ -1) :
    ∀ (m q : Nat), p - q = m → q ≤ p → Ev2 (fun n k => plexusref22_Solve.l2 n k a b (q : Int)) ((false, (0, 0, 0), (p : Int)), 0)
  | 0, q, hm, hq => by
    have e : q = p := by omega
    subst e
    have hle := hr.le
    have hh := rHilbert_e (q := (q : Int)) ha hb
    rw [HA_pl hr.pl, hm1] at hh
    exact Ev2.step (fun n k => plexusref22_Solve.l2_succ n k _ _ _) (ev2T (dT (by omega)) (Ev2.bind hh (ev2T rfl (ev2T rfl (Ev2.now _)))))
  | m + 1, q, hm, hq => by
    have hle := hr.le
    have ih := rsolve_l2 ha hb hr hm1 hj m (q + 1) (by omega) (by omega)
    have hh := rHilbert_e (q := (q : Int)) ha hb
    refine Ev2.step (fun n k => plexusref22_Solve.l2_succ n k _ _ _) (ev2T (dT (by omega)) (Ev2.bind hh ?_))
    rw [i64s (by omega)]
    by_cases h2 : (HA a b (q : Int)).2 = 0
    · refine ev2T (bT h2) (ev2F (bF fun h => ?_) ih)
      obtain ⟨j, e1, e2, e3, _⟩ := HA_nrel ha hb h
      have : j = q := by omega
      subst this
      exact hj j (by omega) e2 e3
    · exact ev2F (bF h2) ih
theorem rsolve_e {a b : Int} (ha : Lt a) (hb : Lt b) {c : Bool × (Int × Int × Int) × Int} (hs : SolveC a b c) : Ev (fun k => plexusref22_Solve.m k a b) (c, 0) := by
  have sa := rsmall_any a
  have sb := rsmall_any b
  rw [decide_eq_true ha] at sa
  rw [decide_eq_true hb] at sb
  refine evX (fun k => plexusref22_Solve.m_eq k _ _) (Ev.bind sa (evF (by decide) (Ev.bind sb (evF (by decide) ?_))))
  rcases hs with ⟨p, e, hp, hr, hm, hj⟩ | ⟨hj, w, hw, e⟩
  · have hno : go0 a b 15 0 = none := by
      cases hg : go0 a b 15 0 with
      | none => rfl
      | some w =>
        exfalso
        obtain ⟨h1, h2, h3, h4⟩ := go0_some hg
        obtain ⟨h5, z, hz⟩ := goodB_iff.1 h4
        exact never ha hb ⟨p, hr, hm⟩ (by omega) (by omega) h5 hz
    subst e
    exact (rsolve_l0 ha hb 15 0 rfl (by decide) (fun w hw => by rw [hno] at hw; cases hw) (fun _ => (rsolve_l2 ha hb hr hm hj p 0 rfl (Nat.zero_le _)).diag)).diag
  · subst e
    exact (rsolve_l0 ha hb 15 0 rfl (by decide) (fun w' hw' => by rw [hw] at hw'; cases hw'; rfl) (fun hn => by rw [hw] at hn; cases hn)).diag
theorem rsolve_big {a b : Int} (h : ¬ Lt a ∨ ¬ Lt b) : Ev (fun k => plexusref22_Solve.m k a b) ((false, (0, 0, 0), 0), 1) := by
  refine evX (fun k => plexusref22_Solve.m_eq k _ _) (Ev.bind (rsmall_any a) ?_)
  by_cases ha : Lt a
  · rw [decide_eq_true ha]
    refine evF (by decide) (Ev.bind (rsmall_any b) ?_)
    rw [decide_eq_false (h.resolve_left (fun q => q ha))]
    exact evT rfl (Ev.now _)
  · rw [decide_eq_false ha]
    exact evT rfl (Ev.now _)
theorem solve_both (a b : Int) : ∃ v, Ev (fun k => local_Solve.m k a b) v ∧ Ev (fun k => plexusref22_Solve.m k a b) v := by
  by_cases ha : Lt a
  · by_cases hb : Lt b
    · obtain ⟨c, hc, hs⟩ := solve_e ha hb
      exact ⟨_, hc, rsolve_e ha hb hs⟩
    · exact ⟨_, solve_big (.inr hb), rsolve_big (.inr hb)⟩
  · exact ⟨_, solve_big (.inl ha), rsolve_big (.inl ha)⟩
theorem rcheck_big {a b : Int} (h : ¬ Lt a ∨ ¬ Lt b) (c : Bool × (Int × Int × Int) × Int) : Ev (fun k => plexusref22_Check.m k a b c) 1 := by
  refine evX (fun k => plexusref22_Check.m_eq k _ _ _) (Ev.bind (rsmall_any a) ?_)
  by_cases ha : Lt a
  · rw [decide_eq_true ha]
    refine evF (by decide) (Ev.bind (rsmall_any b) ?_)
    rw [decide_eq_false (h.resolve_left (fun q => q ha))]
    exact evT rfl (Ev.now _)
  · rw [decide_eq_false ha]
    exact evT rfl (Ev.now _)
theorem rcheck_true {a b : Int} (ha : Lt a) (hb : Lt b) (x y z q : Int) : Ev (fun k => plexusref22_Check.m k a b (true, (x, y, z), q)) (if SvB a b x y z = true then 0 else 6) := by
  have sa := rsmall_any a
  have sb := rsmall_any b
  rw [decide_eq_true ha] at sa
  rw [decide_eq_true hb] at sb
  refine evX (fun k => plexusref22_Check.m_eq k _ _ _) (Ev.bind sa (evF (by decide) (Ev.bind sb (evF (by decide) (evT rfl (Ev.bind (solves_e a b x y z) ?_))))))
  by_cases h : SvB a b x y z = true
  · rw [if_pos h]; exact evT h (Ev.now _)
  · rw [if_neg h]
    refine evF h (evX (fun k => plexusref22_Check.j0_eq k _ _ _) (Ev.bind (rHilbert_e ha hb) (evF (by simp) (Ev.now _))))
theorem rcheck_false {a b : Int} (ha : Lt a) (hb : Lt b) (s : Int × Int × Int) (q : Int) : Ev (fun k => plexusref22_Check.m k a b (false, s, q)) (if (HA a b q).2 = 0 ∧ (HA a b q).1 = -1 then 0 else 6) := by
  have sa := rsmall_any a
  have sb := rsmall_any b
  rw [decide_eq_true ha] at sa
  rw [decide_eq_true hb] at sb
  refine evX (fun k => plexusref22_Check.m_eq k _ _ _) (Ev.bind sa (evF (by decide) (Ev.bind sb (evF (by decide) (evF (by simp) ?_)))))
  refine evX (fun k => plexusref22_Check.j0_eq k _ _ _) (Ev.bind (rHilbert_e ha hb) (evT rfl ?_))
  have e0 : (HA a b q).2 = 0 → (HA a b q).1 = -1 → (if (HA a b q).2 = 0 ∧ (HA a b q).1 = -1 then (0 : Int) else 6) = 0 := fun h1 h2 => if_pos ⟨h1, h2⟩
  have e1 : ¬ ((HA a b q).2 = 0 ∧ (HA a b q).1 = -1) → (if (HA a b q).2 = 0 ∧ (HA a b q).1 = -1 then (0 : Int) else 6) = 6 := fun h => if_neg h
  by_cases h1 : (HA a b q).2 = 0
  · refine evT (bT h1) ?_
    by_cases h2 : (HA a b q).1 = -1
    · rw [e0 h1 h2]; exact evT (bT h2) (Ev.now _)
    · rw [e1 (fun h => h2 h.2)]; exact evF (bF h2) (Ev.now _)
  · rw [e1 (fun h => h1 h.1)]; exact evF (bF h1) (Ev.now _)
theorem check_both (a b : Int) (c : Bool × (Int × Int × Int) × Int) : ∃ v, Ev (fun k => local_Check.m k a b c) v ∧ Ev (fun k => plexusref22_Check.m k a b c) v := by
  by_cases ha : Lt a
  · by_cases hb : Lt b
    · obtain ⟨ok, ⟨x, y, z⟩, q⟩ := c
      cases ok with
      | true => exact ⟨_, check_true ha hb x y z q, rcheck_true ha hb x y z q⟩
      | false => exact ⟨_, check_false ha hb _ q, rcheck_false ha hb _ q⟩
    · exact ⟨_, check_big (.inr hb) c, rcheck_big (.inr hb) c⟩
  · exact ⟨_, check_big (.inl ha) c, rcheck_big (.inl ha) c⟩
end Go.Proofs.YtakimeeakmlemaaQ
