/- ExcludeComplements: the plain law. -/
import Derived.Test.YtokaigninenjhaaQXf
import Derived.Test.YtokaigninenjhaaX24C
namespace Go.Proofs.YtokaigninenjhaaQ
set_option linter.unusedVariables false
set_option linter.unusedSimpArgs false
open Go Go.RowKit Go.Proofs.Ytokaigninenjhaa.P22 Go.Proofs.Ytokaigninenjhaa.V22 Go.Proofs.YtokaigninenjhaaW.PrintWords Go.Proofs.YtokaigninenjhaaW.PrintLast Go.Proofs.YtokaigninenjhaaW.PrintMore
theorem compl_ex {v k l l' : Nat} (h : RN v k l) (he : ex v k l = 0) (hl : (l' : Int) = (v : Int) - 2 * (k : Int) + (l : Int)) : ex v (v - k) l' = 0 := by
  rw [ex_eq0] at he ⊢
  obtain ⟨h1, h2, h3, h4, h5⟩ := h
  obtain ⟨d, rfl⟩ : ∃ d, v = k + d + 1 := ⟨v - k - 1, by omega⟩
  obtain ⟨m, rfl⟩ : ∃ m, k = m + 1 := ⟨k - 1, by omega⟩
  rw [show m + 1 + d + 1 - 1 = m + d + 1 by omega, show m + 1 - 1 = m by omega] at he
  rw [show m + 1 + d + 1 - 1 = m + d + 1 by omega, show m + 1 + d + 1 - (m + 1) = d + 1 by omega, show d + 1 - 1 = d by omega]
  have e : ((l * (m + d + 1) : Nat) : Int) = (((m + 1) * m : Nat) : Int) := by rw [he]
  have g : ((l' * (m + d + 1) : Nat) : Int) = (((d + 1) * d : Nat) : Int) := by
    simp only [Int.natCast_mul, Int.natCast_add, Int.natCast_one] at e hl ⊢
    rw [hl]
    grind
  omega
theorem compl_chk {v k l l' : Nat} (h : RN v k l) (he : ex v k l = 0) (hl : (l' : Int) = (v : Int) - 2 * (k : Int) + (l : Int)) (h' : RN v (v - k) l') (r : Int × Int × Int) : ChkB v (v - k) l' r = ChkB v k l r := by
  have he' := compl_ex h he hl
  have hn : ((v - k : Nat) : Int) - (l' : Int) = (k : Int) - l := by
    obtain ⟨h1, h2, h3, h4, h5⟩ := h
    omega
  have ho : odB v (v - k) l' = odB v k l := by
    unfold odB
    rw [decide_eq_decide, he, he']
  unfold ChkB
  rw [sym_dv h he, sym_dv h' he']
  have e2 : decide (ex v (v - k) l' < 0) = decide (ex v k l < 0) := by rw [he, he']
  have e3 : sqR v (v - k) l' = sqR v k l := by unfold sqR; rw [hn, he, he']
  have e4 : locB v (v - k) l' r.2.2 = locB v k l r.2.2 := by
    unfold locB
    rw [ho, hn]
    cases hq : odB v k l with
    | false => rfl
    | true =>
      have a1 := HA_V h hq r.2.2
      have a2 := HA_V h' (ho.trans hq) r.2.2
      rw [hn] at a2
      rw [a1, a2]
  rw [e2, e3, e4]
theorem compl_of {a : Int × Int × Int × Int} {q : Int} (h0 : 0 ≤ a.2.2.1) (h1 : a.2.2.1 < 256) : Ev (fun k => plexuslaw24_ExcludeComplements.m k a q) true := by
  obtain ⟨p, hp⟩ := near_ex h0 h1
  refine evX (fun k => plexuslaw24_ExcludeComplements.m_eq k _ _) (Ev.bind examples24 (evF (by decide) (Ev.bind hp (Ev.bind (evX (fun k => plexuslaw24_par.m_eq k _ _ _) (Ev.now _)) ?_))))
  by_cases hR : RP p
  · obtain ⟨v, k, l, rfl, hN⟩ := hR.nat
    refine Ev.bind (right_T hR) (evF (nF rfl) ?_)
    obtain ⟨h1, h2, h3, h4, h5⟩ := hN
    have w1 : IntKind.wrap IntKind.i64 ((v : Int) - (k : Int)) = ((v - k : Nat) : Int) := by
      rw [show (v : Int) - (k : Int) = ((v - k : Nat) : Int) by omega, i64n (by omega)]
    have w2 : IntKind.wrap IntKind.i64 (IntKind.wrap IntKind.i64 ((v : Int) - IntKind.wrap IntKind.i64 (2 * (k : Int))) + (l : Int)) = (v : Int) - 2 * (k : Int) + (l : Int) := by
      rw [wrap_i64', wrap_i64', wrap_i64', w64 (x := 2 * (k : Int)) (by omega) (by omega), w64 (x := (v : Int) - 2 * (k : Int)) (by omega) (by omega), w64 (by omega) (by omega)]
    have hN : RN v k l := ⟨h1, h2, h3, h4, h5⟩
    show Ev (fun j => Option.bind (exclude_Right.m j ((2 : Int), (v : Int), IntKind.wrap IntKind.i64 ((v : Int) - (k : Int)), IntKind.wrap IntKind.i64 (IntKind.wrap IntKind.i64 ((v : Int) - IntKind.wrap IntKind.i64 (2 * (k : Int))) + (l : Int)))) fun r62 => _) true
    rw [w1, w2]
    by_cases hR' : RP (2, (v : Int), ((v - k : Nat) : Int), (v : Int) - 2 * (k : Int) + (l : Int))
    · refine Ev.bind (right_T hR') (evF (nF rfl) (Ev.bind (symm_e hN) ?_))
      by_cases he : ex v k l = 0
      · rw [decide_eq_true he]
        refine evF (by decide) ?_
        obtain ⟨l', hl⟩ := Int.eq_ofNat_of_zero_le (a := (v : Int) - 2 * (k : Int) + (l : Int)) (by have := hR'.2.2.2.2.1; simp only at this; omega)
        have hN' : RN v (v - k) l' := by
          obtain ⟨_, g2, g3, g4, g5, g6⟩ := hR'
          simp only at g2 g3 g4 g5 g6
          exact ⟨by omega, by omega, by omega, by omega, by omega⟩
        have hC := compl_chk hN he hl.symm hN'
        have hw : whyV v (v - k) l' = whyV v k l := by
          unfold whyV
          rw [show ChkB v (v - k) l' = ChkB v k l from funext hC]
        have c1 := check_e hN' (3, 0, 0)
        have c2 := check_e hN' (4, 0, IntKind.wrap IntKind.i64 q)
        have y := why_e hN'
        rw [hC, ← hl] at c1 c2
        rw [hw, ← hl] at y
        exact Ev.bind (check_e hN (3, 0, 0)) (Ev.bind c1 (evT (bT rfl) (Ev.bind (check_e hN (4, 0, IntKind.wrap IntKind.i64 q)) (Ev.bind c2 (evT (bT rfl) (Ev.bind (why_e hN) (Ev.bind y (evT (by rw [beq_self_eq_true]) (Ev.now _)))))))))
      · rw [decide_eq_false he]
        exact evT rfl (Ev.now _)
    · exact Ev.bind (right_F hR') (evT (nT (by decide)) (Ev.now _))
  · exact Ev.bind (right_F hR) (evT (nT (by decide)) (Ev.now _))
end Go.Proofs.YtokaigninenjhaaQ
