/- ExcludeMatchesReference: the plain law. -/
import Derived.Test.YtokaigninenjhaaQXf
import Derived.Test.YtokaigninenjhaaX24M
namespace Go.Proofs.YtokaigninenjhaaQ
set_option linter.unusedVariables false
set_option linter.unusedSimpArgs false
open Go Go.RowKit Go.Proofs.Ytokaigninenjhaa.P22 Go.Proofs.Ytokaigninenjhaa.V22 Go.Proofs.YtokaigninenjhaaW.PrintWords Go.Proofs.YtokaigninenjhaaW.PrintLast Go.Proofs.YtokaigninenjhaaW.PrintMore
theorem both_right (p : Int × Int × Int × Int) : ∃ x, Ev (fun k => exclude_Right.m k p) x ∧ Ev (fun k => plexusref24_Right.m k p) x := ⟨_, right_both p⟩
theorem both_why (p : Int × Int × Int × Int) : ∃ x, Ev (fun k => plexuslaw24_why.m k p) x ∧ Ev (fun k => plexusref24_WhyIn.m k p) x := by
  by_cases h : RP p
  · obtain ⟨v, k, l, rfl, hN⟩ := h.nat
    exact ⟨_, why_e hN, whyin_e hN⟩
  · exact ⟨_, why_F h, whyin_F h⟩
theorem both_blocks (p : Int × Int × Int × Int) (n : Int) : ∃ x, Ev (fun k => plexuslaw24_blocks.m k p n) x ∧ Ev (fun k => plexusref24_BlocksIn.m k p n) x := by
  by_cases h : RP p
  · obtain ⟨v, k, l, rfl, hN⟩ := h.nat
    obtain ⟨e1, e2⟩ := blocks_both hN n
    exact ⟨_, evX (fun j => plexuslaw24_blocks.m_eq j _ _) (Ev.bind e1 (Ev.now _)), e2⟩
  · obtain ⟨e1, e2⟩ := blocks_F h n
    exact ⟨_, evX (fun j => plexuslaw24_blocks.m_eq j _ _) (Ev.bind e1 (Ev.now _)), e2⟩
theorem both_check (p : Int × Int × Int × Int) (r : Int × Int × Int) : ∃ x, Ev (fun k => exclude_Check.m k p r) x ∧ Ev (fun k => plexusref24_Check.m k p r) x := by
  by_cases h : RP p
  · obtain ⟨v, k, l, rfl, hN⟩ := h.nat
    exact ⟨_, check_e hN r, rcheck_e hN r⟩
  · exact ⟨_, check_F h r, rcheck_F h r⟩
theorem both_open (v k M : Int) : ∃ x : List Int × Int, x.1.length ≤ 1000 ∧ Ev (fun j => plexuslaw24_open.m j v k M) x ∧ Ev (fun j => plexusref24_OpenIn.m j v k M) x := by
  by_cases h : M < 1 ∨ M > 20 ∨ ¬ RP (2, v, k, 1)
  · obtain ⟨e1, e2⟩ := open_F h
    exact ⟨_, by decide, evX (fun j => plexuslaw24_open.m_eq j _ _ _) (Ev.bind e1 (Ev.now _)), e2⟩
  · have hR : RP (2, v, k, 1) := by
      by_cases q : RP (2, v, k, 1)
      · exact q
      · exact absurd (.inr (.inr q)) h
    obtain ⟨v, k, l, e, hN⟩ := hR.nat
    injection e with _ e
    injection e with e1 e
    injection e with e2 _
    subst e1 e2
    obtain ⟨M, rfl⟩ := Int.eq_ofNat_of_zero_le (a := M) (by omega)
    obtain ⟨e1, e2⟩ := open_T (M := M) ⟨hN.1, hN.2.1, hN.2.2.1, by decide, by decide⟩ (by omega) (by omega)
    refine ⟨_, ?_, evX (fun j => plexuslaw24_open.m_eq j _ _ _) (Ev.bind e1 (Ev.now _)), e2⟩
    have : ∀ m i, (opn v k i m).length ≤ m := by
      intro m
      induction m with
      | zero => intro i; exact Nat.le_refl _
      | succ m ih =>
        intro i
        unfold opn
        rw [List.length_append]
        have := ih (i + 1)
        split <;> simp <;> omega
    have := this M 1
    show (opn v k 1 M).length ≤ 1000
    omega
theorem same_l0 (L : List Int) (hL : L.length ≤ 1000) : ∀ (m i : Nat), i + m = L.length → Ev2 (fun n j => plexusref06_SameInts.l0 n j L L (i : Int)) true
  | 0, i, hi => Ev2.step (fun n j => plexusref06_SameInts.l0_succ n j _ _ _) (ev2F (dF (by omega)) (Ev2.now _))
  | m + 1, i, hi => by
    refine Ev2.step (fun n j => plexusref06_SameInts.l0_succ n j _ _ _) (ev2T (dT (by omega)) (ev2T (by omega) (ev2T (by omega) (ev2T (by omega) (ev2T (by omega) (ev2F (nF rfl) ?_))))))
    rw [show (i : Int) + 1 = ((i + 1 : Nat) : Int) by omega, i64n (by omega)]
    exact same_l0 L hL m (i + 1) (by omega)
theorem same_e (L : List Int) (hL : L.length ≤ 1000) : Ev (fun j => plexusref06_SameInts.m j L L) true := by
  refine evX (fun j => plexusref06_SameInts.m_eq j _ _) (evF (nF rfl) ?_)
  suffices z : Ev2 (fun n j => plexusref06_SameInts.l0 n j L L ((0 : Nat) : Int)) true from z.diag
  exact same_l0 L hL L.length 0 (by omega)
theorem ref_round (a1 : Int × Int × Int × Int) (a2 : Int × Int × Int) (r13 : Int × Int × Int × Int) (v1 : Int) (h0 : 0 ≤ v1) (h2 : v1 < 2) (hn : Ev2 (fun n j => plexuslaw24_ExcludeMatchesReference.l0 n j a1 a2 true r13 (IntKind.wrap IntKind.i64 (v1 + 1))) true) :
    Ev2 (fun n j => plexuslaw24_ExcludeMatchesReference.l0 n j a1 a2 true r13 v1) true := by
  refine Ev2.step (fun n j => plexuslaw24_ExcludeMatchesReference.l0_succ n j _ _ _ _ _) (ev2T (dT h2) (ev2T h0 (ev2T h2 ?_)))
  generalize q24 r13 a1 v1 = q
  obtain ⟨w, w1, w2⟩ := both_why q
  obtain ⟨x, x1, x2⟩ := both_right q
  obtain ⟨b0, b1, b2⟩ := both_blocks q 0
  obtain ⟨c0, c1, c2⟩ := both_blocks q a2.2.1
  obtain ⟨d0, d1, d2⟩ := both_check q a2
  obtain ⟨e0, e1, e2⟩ := both_check q w.1
  obtain ⟨f0, f1, f2⟩ := both_check q (a2.1, 1, 2)
  refine Ev2.bind w2 (Ev2.bind x1 (Ev2.bind x2 (ev2F (nF rfl) (Ev2.bind w1 (ev2F ?_ (Ev2.bind b1 (Ev2.bind b2 (ev2F ?_ (Ev2.bind c1 (Ev2.bind c2 (ev2F ?_ (Ev2.bind d1 (Ev2.bind d2 (ev2F (nF rfl) (Ev2.bind e1 (Ev2.bind e2 (ev2F (nF rfl) (Ev2.bind f1 (Ev2.bind f2 (ev2F (nF rfl) hn))))))))))))))))))))
  · simp
  · simp
  · simp
theorem ref_of {a : Int × Int × Int × Int} {p : Int × Int × Int × Int} {r : Int × Int × Int} (h0 : 0 ≤ a.2.2.1) (h1 : a.2.2.1 < 256) : Ev (fun k => plexuslaw24_ExcludeMatchesReference.m k a p r) true := by
  obtain ⟨q, hq⟩ := near_ex h0 h1
  refine evX (fun k => plexuslaw24_ExcludeMatchesReference.m_eq k _ _ _) (Ev.bind examples24 (evF (by decide) (Ev.bind hq ?_)))
  suffices z : Ev2 (fun n j => plexuslaw24_ExcludeMatchesReference.l0 n j p r true q 0) true from z.diag
  refine ref_round p r q 0 (by decide) (by decide) ?_
  show Ev2 (fun n j => plexuslaw24_ExcludeMatchesReference.l0 n j p r true q 1) true
  refine ref_round p r q 1 (by decide) (by decide) ?_
  show Ev2 (fun n j => plexuslaw24_ExcludeMatchesReference.l0 n j p r true q 2) true
  obtain ⟨x, x0, x1, x2⟩ := both_open p.2.1 p.2.2.1 p.2.2.2
  exact Ev2.step (fun n j => plexuslaw24_ExcludeMatchesReference.l0_succ n j _ _ _ _ _) (ev2F (dF (show ¬ ((2 : Int) < ((2 : Nat) : Int)) by omega)) (Ev2.bind x1 (Ev2.bind x2 (ev2T (bT rfl) (Ev2.bind (same_e x.1 x0) (ev2T rfl (Ev2.now _)))))))
end Go.Proofs.YtokaigninenjhaaQ
