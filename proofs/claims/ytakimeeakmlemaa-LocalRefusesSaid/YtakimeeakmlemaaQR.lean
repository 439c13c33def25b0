/- LocalRefuses: the plain law. -/
import Derived.Test.YtakimeeakmlemaaQRa
import Derived.Test.YtakimeeakmlemaaX22U
namespace Go.Proofs.YtakimeeakmlemaaQ
set_option linter.unusedVariables false
set_option linter.unusedSimpArgs false
open Go Go.RowKit Go.Proofs.Ytakimeeakmlemaa.P22 Go.Proofs.Ytakimeeakmlemaa.V22 Go.Proofs.YtakimeeakmlemaaW.PrintWords Go.Proofs.YtakimeeakmlemaaW.PrintLast Go.Proofs.YtakimeeakmlemaaW.PrintMore
theorem refuses_j2 {a : Int} (ha : Lt a) (x y z pl c : Int) (ok : Bool) : Ev (fun k => plexuslaw22_LocalRefuses.j2 k (ok, (x, y, z), pl) c true a (decide (Lt c))) true := by
  refine evX (fun k => plexuslaw22_LocalRefuses.j2_eq k _ _ _ _ _) ?_
  by_cases hc : Lt c
  · obtain ⟨s1, e1, _⟩ := solve_e ha hc
    obtain ⟨s2, e2, _⟩ := solve_e hc ha
    have e3 := HilbertA_e (q := 3) hc ha
    rw [show HA c a 3 = (Hm 3 c a, 0) from HA_pl (p := 3) (.inr (.inr (by decide)))] at e3
    rw [decide_eq_true hc]
    refine Ev.bind e1 (Ev.bind e2 (Ev.bind e3 (evT rfl (evT rfl (evT rfl (Ev.bind (check_false ha hc (x, y, z) pl) (evT ?_ (Ev.now _))))))))
    split <;> rfl
  · rw [decide_eq_false hc]
    exact Ev.bind (solve_big (.inr hc)) (Ev.bind (solve_big (.inl hc)) (Ev.bind (hilbert_big (.inl hc) 3) (evT rfl (evT rfl (evT rfl (Ev.bind (check_big (.inr hc) (false, (x, y, z), pl)) (evT rfl (Ev.now _))))))))
theorem refuses_j1 {a : Int} (ha : Lt a) (x y z pl c : Int) (ok : Bool) : Ev (fun k => plexuslaw22_LocalRefuses.j1 k (ok, (x, y, z), pl) c true a) true := by
  have h2 := refuses_j2 ha x y z pl c ok
  refine evX (fun k => plexuslaw22_LocalRefuses.j1_eq k _ _ _ _) ?_
  by_cases h0 : c = 0
  · rw [decide_eq_false (fun q : Lt c => q.1 h0)] at h2
    exact evF (nF h0) h2
  · refine evT (nT h0) ?_
    by_cases h1 : -200 ≤ c
    · refine evT (dT h1) ?_
      have e : decide (c ≤ 200) = decide (Lt c) := by
        by_cases h2 : c ≤ 200
        · rw [decide_eq_true h2, decide_eq_true (show Lt c from ⟨h0, h1, h2⟩)]
        · rw [decide_eq_false h2, decide_eq_false (fun q : Lt c => h2 q.2.2)]
      rw [e]; exact h2
    · rw [decide_eq_false (fun q : Lt c => h1 q.2.1)] at h2
      exact evF (dF h1) h2
theorem refuses_j0 {a b : Int} (ha : Lt a) (hb : Lt b) (x y z pl c : Int) (ok : Bool) {s : Bool × (Int × Int × Int) × Int} (hs : SolveC a b s) : Ev (fun k => plexuslaw22_LocalRefuses.j0 k (ok, (x, y, z), pl) c true a b s) true := by
  have h1 := refuses_j1 ha x y z pl c ok
  have hc := check_false ha hb (x, y, z) pl
  have hno : s.1 = true → (HA a b pl).1 ≠ -1 := fun h q => by
    obtain ⟨p, _, hr, hm, _⟩ := HA_nrel ha hb q
    rcases hs with ⟨p', e, _⟩ | ⟨hj, _⟩
    · rw [e] at h; cases h
    · exact hj p hr hm
  refine evX (fun k => plexuslaw22_LocalRefuses.j0_eq k _ _ _ _ _ _) (Ev.bind (HilbertA_e ha hb) (Ev.bind hc ?_))
  have e0 : (HA a b pl).2 = 0 → (HA a b pl).1 = -1 → (if (HA a b pl).2 = 0 ∧ (HA a b pl).1 = -1 then (0 : Int) else 6) = 0 := fun h1 h2 => if_pos ⟨h1, h2⟩
  have e1 : ¬ ((HA a b pl).2 = 0 ∧ (HA a b pl).1 = -1) → (if (HA a b pl).2 = 0 ∧ (HA a b pl).1 = -1 then (0 : Int) else 6) = 6 := fun h => if_neg h
  by_cases h2 : (HA a b pl).2 = 0
  · refine evT (bT h2) ?_
    by_cases h3 : (HA a b pl).1 = -1
    · rw [e0 h2 h3]
      refine evF (by rw [bT h3]; decide) ?_
      by_cases ht : s.1 = true
      · exact absurd h3 (hno ht)
      · exact evF ht h1
    · have e := e1 (fun h => h3 h.2)
      rw [e] at hc ⊢
      refine evF (by rw [show ((HA a b pl).1 == -1) = false from by simpa using h3]; decide) ?_
      by_cases ht : s.1 = true
      · exact evT ht (Ev.bind hc (evF (by decide) h1))
      · exact evF ht h1
  · refine evF (bF h2) ?_
    have e := e1 (fun h => h2 h.1)
    rw [e] at hc ⊢
    refine evF (by decide) ?_
    by_cases ht : s.1 = true
    · exact evT ht (Ev.bind hc (evF (by decide) h1))
    · exact evF ht h1
theorem refuses_of {u v x y z pl c : Int} {ok : Bool} (hu : -128 ≤ u ∧ u < 128) (hv : -128 ≤ v ∧ v < 128) : Ev (fun k => plexuslaw22_LocalRefuses.m k (u, v) (ok, (x, y, z), pl) c) true := by
  have nu := near_e (x := u) (by omega) (by omega)
  have nv := near_e (x := v) (by omega) (by omega)
  have bu := near_bd (x := u) (m := 128) (by omega) (by omega) (by decide)
  have bv := near_bd (x := v) (m := 128) (by omega) (by omega) (by decide)
  revert nu nv bu bv
  generalize (if u = 0 then (1 : Int) else u) = a
  generalize (if v = 0 then (1 : Int) else v) = b
  intro nu nv bu bv
  have ha : Lt a := ⟨bu.1, by omega, by omega⟩
  have hb : Lt b := ⟨bv.1, by omega, by omega⟩
  obtain ⟨s, es, hs⟩ := solved_e ha hb
  have hj := refuses_j0 ha hb x y z pl c ok hs
  refine evX (fun k => plexuslaw22_LocalRefuses.m_eq k _ _ _) (Ev.bind examples22 (evF (by decide) (Ev.bind nu (Ev.bind nv (Ev.bind (check_true ha hb x y z pl) (Ev.bind (solves_e a b x y z) (evF ?_ (Ev.bind es ?_))))))))
  · cases SvB a b x y z <;> decide
  · rcases hs.cases ha hb with ⟨p, e, _⟩ | ⟨_, X, Y, Z, hf, e⟩
    · subst e; exact evF (by simp) hj
    · subst e
      obtain ⟨f1, f2, f3, ⟨f4, f5⟩, f6⟩ := hf
      refine evT rfl ?_
      have c1 := check_true ha hb (IntKind.wrap IntKind.i64 (-3 * (X : Int))) (IntKind.wrap IntKind.i64 (3 * (Y : Int))) (IntKind.wrap IntKind.i64 (3 * Z)) 0
      have c2 := check_true ha hb (X : Int) (Y : Int) (IntKind.wrap IntKind.i64 (Z + 1)) 0
      have w1 : IntKind.wrap IntKind.i64 (-3 * (X : Int)) = -3 * (X : Int) := by rw [wrap_i64', w64 (by omega) (by omega)]
      have w2 : IntKind.wrap IntKind.i64 (3 * (Y : Int)) = 3 * (Y : Int) := by rw [wrap_i64', w64 (by omega) (by omega)]
      have w3 : IntKind.wrap IntKind.i64 (3 * Z) = 3 * Z := by rw [wrap_i64', w64 (by omega) (by omega)]
      have w4 : IntKind.wrap IntKind.i64 (Z + 1) = Z + 1 := by rw [wrap_i64', w64 (by omega) (by omega)]
      have t1 : SvB a b (-3 * (X : Int)) (3 * (Y : Int)) (3 * Z) = true := by
        rw [SvB_eq ha hb (by omega) (by omega) (by omega) (by omega), decide_eq_true_iff]
        grind
      have t2 : SvB a b (X : Int) (Y : Int) (Z + 1) = false := by
        rw [SvB_eq ha hb (by omega) (by omega) (by omega) (by omega), decide_eq_false_iff_not]
        intro q
        rw [← f6] at q
        have : (Z + 1) * (Z + 1) = Z * Z + (2 * Z + 1) := by grind
        omega
      rw [w1, w2, w3, t1] at c1
      rw [w4, t2] at c2
      show Ev (fun k => Option.bind (local_Check.m k a b (true, (IntKind.wrap IntKind.i64 (-3 * (X : Int)), IntKind.wrap IntKind.i64 (3 * (Y : Int)), IntKind.wrap IntKind.i64 (3 * Z)), 0)) fun (r685 : Int) => (if (r685 != 0) = true then some (false) else (Option.bind (local_Check.m k a b (true, ((X : Int), (Y : Int), IntKind.wrap IntKind.i64 (Z + 1)), 0)) fun (r709 : Int) => (if (r709 != 6) = true then some (false) else (plexuslaw22_LocalRefuses.j0 k (ok, (x, y, z), pl) c true a b (true, ((X : Int), (Y : Int), Z), 0)))))) true
      rw [w1, w2, w3, w4]
      exact Ev.bind c1 (evF (by decide) (Ev.bind c2 (evF (by decide) hj)))
end Go.Proofs.YtakimeeakmlemaaQ
