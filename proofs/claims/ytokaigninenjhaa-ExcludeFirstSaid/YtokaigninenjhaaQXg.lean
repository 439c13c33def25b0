/- ExcludeFirst: the plain law. -/
import Derived.Test.YtokaigninenjhaaQXf
import Derived.Test.YtokaigninenjhaaX24F
namespace Go.Proofs.YtokaigninenjhaaQ
set_option linter.unusedVariables false
set_option linter.unusedSimpArgs false
open Go Go.RowKit Go.Proofs.Ytokaigninenjhaa.P22 Go.Proofs.Ytokaigninenjhaa.V22 Go.Proofs.YtokaigninenjhaaW.PrintWords Go.Proofs.YtokaigninenjhaaW.PrintLast Go.Proofs.YtokaigninenjhaaW.PrintMore
theorem first_l0 {v k l : Nat} (h : RN v k l) : ∀ (m i : Nat), i + m = allL.length → whyV v k l = whyF ((allL.drop i).find? (ChkB v k l)) →
    Ev2 (fun n j => plexuslaw24_ExcludeFirst.l0 n j true (2, (v : Int), (k : Int), (l : Int)) (whyV v k l) allL (i : Int)) true
  | 0, i, hi, hw => by
    refine Ev2.step (fun n j => plexuslaw24_ExcludeFirst.l0_succ n j _ _ _ _ _) (ev2F (dF (by omega)) ?_)
    rw [hw, List.drop_eq_nil_of_le (by omega)]
    exact ev2T rfl (ev2T rfl (Ev2.now _))
  | m + 1, i, hi, hw => by
    have hL := allL_len
    have hlt : i < allL.length := by omega
    have hget : List.getD allL (Int.toNat (i : Int)) ((Int.ofNat 0, Int.ofNat 0, Int.ofNat 0) : Int × Int × Int) = allL[i] := by
      rw [Int.toNat_natCast, List.getD_eq_getElem?_getD, List.getElem?_eq_getElem hlt]; rfl
    rw [List.drop_eq_getElem_cons hlt] at hw
    refine Ev2.step (fun n j => plexuslaw24_ExcludeFirst.l0_succ n j _ _ _ _ _) (ev2T (dT (by omega)) (ev2T (by omega) (ev2T (by omega) ?_)))
    rw [hget]
    refine Ev2.bind (check_e h (allL[i].fst, allL[i].snd.fst, allL[i].snd.snd)) ?_
    show Ev2 (fun n j => if ((if ChkB v k l allL[i] = true then (0 : Int) else 240) == 0) = true then _ else _) true
    cases hc : ChkB v k l allL[i] with
    | true =>
      rw [List.find?_cons_of_pos hc] at hw
      rw [hw]
      refine ev2T (by decide) (ev2T rfl (ev2T (by omega) (ev2T (by omega) (ev2T ?_ (Ev2.now _)))))
      show (allL[i].fst == allL[i].fst && (allL[i].snd.fst == allL[i].snd.fst && allL[i].snd.snd == allL[i].snd.snd)) = true
      simp
    | false =>
      rw [List.find?_cons_of_neg (by rw [hc]; decide)] at hw
      refine ev2F (by decide) ?_
      rw [show (i : Int) + 1 = ((i + 1 : Nat) : Int) by omega, i64n (by omega)]
      exact first_l0 h m (i + 1) (by omega) hw
theorem first_of {a : Int × Int × Int × Int} (h0 : 0 ≤ a.2.2.1) (h1 : a.2.2.1 < 256) : Ev (fun k => plexuslaw24_ExcludeFirst.m k a) true := by
  obtain ⟨p, hp⟩ := near_ex h0 h1
  refine evX (fun k => plexuslaw24_ExcludeFirst.m_eq k _) (Ev.bind examples24 (evF (by decide) (Ev.bind hp ?_)))
  by_cases hR : RP p
  · obtain ⟨v, k, l, rfl, hN⟩ := hR.nat
    refine Ev.bind (why_e hN) (Ev.bind (right_T hR) (evF (nF rfl) (Ev.bind all_e ?_)))
    suffices z : Ev2 (fun n j => plexuslaw24_ExcludeFirst.l0 n j true (2, (v : Int), (k : Int), (l : Int)) (whyV v k l) allL ((0 : Nat) : Int)) true from z.diag
    exact first_l0 hN allL.length 0 (by omega) rfl
  · exact Ev.bind (why_F hR) (Ev.bind (right_F hR) (evT (nT (by decide)) (evT rfl (evT rfl (Ev.now _)))))
end Go.Proofs.YtokaigninenjhaaQ
