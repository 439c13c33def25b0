/- LocalMatchesReference: the plain law. -/
import Derived.Test.YtakimeeakmlemaaQMd
import Derived.Test.YtakimeeakmlemaaX22M
namespace Go.Proofs.YtakimeeakmlemaaQ
set_option linter.unusedVariables false
set_option linter.unusedSimpArgs false
open Go Go.RowKit Go.Proofs.Ytakimeeakmlemaa.P22 Go.Proofs.Ytakimeeakmlemaa.V22 Go.Proofs.YtakimeeakmlemaaW.PrintWords Go.Proofs.YtakimeeakmlemaaW.PrintLast Go.Proofs.YtakimeeakmlemaaW.PrintMore
theorem match_l0 {a q : Int} {a2 : (Bool × (Int × Int × Int) × Int) × Bool × (Int × Int × Int) × Int} {r : LN} {e : Int} (hl : r.length ≤ 1000000) : ∀ (m i : Nat), r.length - i = m → i ≤ r.length → Ev2 (fun n k => plexuslaw22_LocalMatchesReference.l0 n k a q a2 true (castL r, e) (castL r, e) (i : Int)) true
  | 0, i, hm, hi => by
    obtain ⟨h, e1, e2⟩ := hil_both a a2.2.2.2 q
    obtain ⟨s, e3, e4⟩ := solve_both a a2.2.2.2
    obtain ⟨c, e5, e6⟩ := check_both a a2.2.2.2 (a2.1.1, (a2.1.2.1.1, a2.1.2.1.2.1, a2.1.2.1.2.2), a2.1.2.2)
    have hc : ((castL r).length : Int) = (r.length : Int) := by rw [castL_len]
    refine Ev2.step (fun n k => plexuslaw22_LocalMatchesReference.l0_succ n k _ _ _ _ _ _ _) (ev2F (dF (by show ¬ ((i : Int) < ((castL r).length : Int)); omega)) ?_)
    refine Ev2.bind e1 (Ev2.bind e2 (Ev2.bind e3 (Ev2.bind e4 (ev2T (bT rfl) (ev2T (bT rfl) (ev2T (by simp) (ev2T (bT rfl) (Ev2.bind e5 (Ev2.bind e6 (ev2T (bT rfl) (Ev2.now _)))))))))))
  | m + 1, i, hm, hi => by
    have ih := match_l0 (a := a) (q := q) (a2 := a2) (e := e) hl m (i + 1) (by omega) (by omega)
    have hc : ((castL r).length : Int) = (r.length : Int) := by rw [castL_len]
    have h1 : (i : Int) < ((castL r).length : Int) := by omega
    refine Ev2.step (fun n k => plexuslaw22_LocalMatchesReference.l0_succ n k _ _ _ _ _ _ _) (ev2T (dT h1) (ev2T (by omega) (ev2T h1 (ev2T (by omega) (ev2T h1 (ev2F (by simp) ?_))))))
    rw [i64s (by omega)]
    exact ih
theorem matches_of {a q : Int} {a2 : (Bool × (Int × Int × Int) × Int) × Bool × (Int × Int × Int) × Int} (h0 : -9223372036854775808 ≤ a) (h1 : a < 9223372036854775808) : Ev (fun k => plexuslaw22_LocalMatchesReference.m k a q a2) true := by
  obtain ⟨v, e1, e2⟩ := leg_both a q
  obtain ⟨r, e, hl, e3, e4⟩ := fac_both (n := a)
  refine evX (fun k => plexuslaw22_LocalMatchesReference.m_eq k _ _ _) (Ev.bind examples22 (evF (by decide) (Ev.bind e1 (Ev.bind e2 (Ev.bind e3 (Ev.bind e4 (evF (nF rfl) (evF (nF rfl) (evF (nF rfl) (evF (nF rfl) (Ev.bind (Square_e h0 h1) (Ev.bind (rsquare_e h1) (evF ?_ ?_)))))))))))))
  · cases sqB a <;> decide
  · exact (match_l0 hl _ 0 rfl (Nat.zero_le _)).diag
end Go.Proofs.YtakimeeakmlemaaQ
