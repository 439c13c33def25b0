/- ExcludeEquation: the plain law. -/
import Derived.Test.YtokaigninenjhaaQXf
import Derived.Test.YtokaigninenjhaaX24Q
namespace Go.Proofs.YtokaigninenjhaaQ
set_option linter.unusedVariables false
set_option linter.unusedSimpArgs false
open Go Go.RowKit Go.Proofs.Ytokaigninenjhaa.P22 Go.Proofs.Ytokaigninenjhaa.V22 Go.Proofs.YtokaigninenjhaaW.PrintWords Go.Proofs.YtokaigninenjhaaW.PrintLast Go.Proofs.YtokaigninenjhaaW.PrintMore
theorem sqR_odd {v k l : Nat} (hv : v % 2 = 1) : sqR v k l = false := by
  unfold sqR
  rw [decide_eq_false (show ¬ v % 2 = 0 by omega), Bool.false_and, Bool.and_false]
theorem locR_mem {p : Nat} (h : p ∈ plcs) : locR p ∈ allL := by
  rw [allL_eq]
  exact List.mem_cons_of_mem _ (List.mem_cons_of_mem _ (List.mem_cons_of_mem _ (List.mem_cons_of_mem _ (List.mem_map.2 ⟨p, h, rfl⟩))))
theorem equ_j1 {v k l : Nat} (h : RN v k l) (ho : odB v k l = true) {s : Int} (hs : IntKind.wrap IntKind.i64 (s * (l : Int)) = sdv v l) : Ev (fun j => plexuslaw24_ExcludeEquation.j1 j true (2, (v : Int), (k : Int), (l : Int)) s) true := by
  obtain ⟨l1, l2⟩ := Lt_sides h ho
  obtain ⟨he, hv⟩ := odB_iff.1 ho
  obtain ⟨c, e1, hc⟩ := solve_e l1 l2
  refine evX (fun j => plexuslaw24_ExcludeEquation.j1_eq j _ _ _) ?_
  show Ev (fun j => Option.bind (local_Solve.m j (IntKind.wrap IntKind.i64 ((k : Int) - (l : Int))) (IntKind.wrap IntKind.i64 (s * (l : Int)))) fun r230 => _) true
  rw [kl_w h, hs]
  have f2 : ChkB v k l (2, 0, 0) = false := decide_eq_false (show ¬ ex v k l < 0 by omega)
  have f0 : ChkB v k l (1, 0, 0) = false := sym_dv h he 0
  have f1 : ChkB v k l (1, 1, 0) = false := sym_dv h he 1
  have e2 := check_e h (2, 0, 0)
  have e0 := check_e h (1, 0, 0)
  have e3 := check_e h (1, 1, 0)
  rw [f2] at e2
  rw [f0] at e0
  rw [f1] at e3
  have hq : c.1 = ((whyV v k l).2 == 4) := by
    have hloc : ∀ q : Nat, ChkB v k l (locR q) = locB v k l (q : Int) := fun q => by unfold ChkB locR; simp
    rcases hc with ⟨p, rfl, _, hr, hm, _⟩ | ⟨hj, w, _, rfl⟩
    · have hn : ¬ (whyV v k l).2 = 4 := fun q => by
        have := whyV_open.1 q (locR p) (locR_mem (rel_plcs hr))
        rw [hloc, locB_of ho hr hm] at this
        cases this
      exact (beq_eq_false_iff_ne.2 hn).symm
    · have hy : (whyV v k l).2 = 4 := whyV_open.2 fun r hr => by
        rw [allL_eq] at hr
        rcases List.mem_cons.1 hr with rfl | hr
        · exact f0
        rcases List.mem_cons.1 hr with rfl | hr
        · exact f1
        rcases List.mem_cons.1 hr with rfl | hr
        · exact f2
        rcases List.mem_cons.1 hr with rfl | hr
        · exact sqR_odd hv
        obtain ⟨q, _, rfl⟩ := List.mem_map.1 hr
        rw [hloc]
        cases hb : locB v k l (q : Int) with
        | false => rfl
        | true =>
          obtain ⟨_, p', _, hr', hm'⟩ := locB_rel h hb
          exact absurd hm' (hj p' hr')
      exact (beq_iff_eq.2 hy).symm
  refine Ev.bind e1 (evT (bT rfl) (Ev.bind (why_e h) (evT ?_ (Ev.bind e2 (evT (by decide) (Ev.bind e0 (evT (by decide) (Ev.bind e3 (evT (by decide) (Ev.now _))))))))))
  show (c.1 == ((whyV v k l).2 == 4)) = true
  rw [← hq]
  exact beq_self_eq_true _
theorem equ_j0 {v k l : Nat} (h : RN v k l) (ho : odB v k l = true) {s : Int} (hs : IntKind.wrap IntKind.i64 (s * (l : Int)) = sdv v l) (hs2 : IntKind.wrap IntKind.i64 (s * (v : Int)) = sdv v v) (q : Int) : Ev (fun j => plexuslaw24_ExcludeEquation.j0 j q true (2, (v : Int), (k : Int), (l : Int)) s) true := by
  obtain ⟨l1, l2⟩ := Lt_sides h ho
  have hv : Lt (sdv v v) := by
    obtain ⟨h1, h2, h3, h4, h5⟩ := h
    unfold sdv
    split <;> exact ⟨by omega, by omega, by omega⟩
  have j1 := equ_j1 h ho hs
  refine evX (fun j => plexuslaw24_ExcludeEquation.j0_eq j _ _ _ _) ?_
  show Ev (fun j => Option.bind (local_Hilbert.m j (IntKind.wrap IntKind.i64 ((k : Int) - (l : Int))) (IntKind.wrap IntKind.i64 (s * (l : Int))) (IntKind.wrap IntKind.i64 q)) fun r100 => Option.bind (local_Hilbert.m j (IntKind.wrap IntKind.i64 ((k : Int) - (l : Int))) (IntKind.wrap IntKind.i64 (s * (v : Int))) (IntKind.wrap IntKind.i64 q)) fun r117 => _) true
  rw [kl_w h, hs, hs2]
  generalize IntKind.wrap IntKind.i64 q = t
  have e2 := HilbertA_e (q := t) l1 hv
  rw [← HA_V h ho t] at e2
  refine Ev.bind (HilbertA_e l1 l2) (Ev.bind e2 (Ev.bind (check_e h (4, 0, t)) (evF (nF rfl) (evF (nF rfl) ?_))))
  rw [show ChkB v k l (4, 0, t) = locB v k l t from rfl]
  have hd : locB v k l t = (decide ((HA ((k : Int) - l) (sdv v l) t).2 = 0) && decide ((HA ((k : Int) - l) (sdv v l) t).1 = -1)) := by unfold locB; rw [ho]; rfl
  generalize HA ((k : Int) - l) (sdv v l) t = x at *
  rw [hd]
  by_cases h2 : x.2 = 0
  · refine evT (bT h2) ?_
    rw [decide_eq_true h2, Bool.true_and]
    by_cases h3 : x.1 = -1
    · rw [decide_eq_true h3, show (x.1 == -1) = true from bT h3]
      exact evF (by decide) j1
    · rw [decide_eq_false h3, show (x.1 == -1) = false from beq_eq_false_iff_ne.2 h3]
      exact evF (by decide) j1
  · refine evF (bF h2) ?_
    rw [decide_eq_false h2, Bool.false_and]
    exact evF (by decide) j1
theorem equ_of {a : Int × Int × Int × Int} {q : Int} (h0 : 0 ≤ a.2.2.1) (h1 : a.2.2.1 < 256) : Ev (fun k => plexuslaw24_ExcludeEquation.m k a q) true := by
  obtain ⟨p, hp⟩ := near_ex h0 h1
  refine evX (fun k => plexuslaw24_ExcludeEquation.m_eq k _ _) (Ev.bind examples24 (evF (by decide) (Ev.bind hp ?_)))
  by_cases hR : RP p
  · obtain ⟨v, k, l, rfl, hN⟩ := hR.nat
    refine Ev.bind (right_T hR) (evF (nF rfl) (Ev.bind (symm_e hN) ?_))
    by_cases he : ex v k l = 0
    · rw [decide_eq_true he]
      refine evF (by decide) ?_
      have hN0 := hN
      obtain ⟨h1, h2, h3, h4, h5⟩ := hN
      show Ev (fun j => if (Go.Vx.divF BinOp.rem IntKind.i64 (v : Int) ((2 : Nat) : Int) == 0) = true then some true else (if (Go.Vx.divF BinOp.rem IntKind.i64 (Go.Vx.divF BinOp.quo IntKind.i64 (IntKind.wrap IntKind.i64 ((v : Int) - 1)) ((2 : Nat) : Int)) ((2 : Nat) : Int) == 1) = true then (plexuslaw24_ExcludeEquation.j0 j q true (2, (v : Int), (k : Int), (l : Int)) (-1)) else (plexuslaw24_ExcludeEquation.j0 j q true (2, (v : Int), (k : Int), (l : Int)) (1)))) true
      rw [sub1 (by omega) (by omega), quo_nat (by omega) (by omega), rem2 (c := 0) (d := 0) rfl 2, rem2 (c := 1) (d := 1) rfl 2]
      by_cases hv : v % 2 = 0
      · exact evT (dT hv) (Ev.now _)
      · refine evF (dF hv) ?_
        have ho : odB v k l = true := odB_iff.2 ⟨he, by omega⟩
        by_cases h4' : v % 4 = 3
        · refine evT (dT (by omega)) (equ_j0 hN0 ho ?_ ?_ q)
          · unfold sdv; rw [if_pos h4', wrap_i64', w64 (by omega) (by omega)]; omega
          · unfold sdv; rw [if_pos h4', wrap_i64', w64 (by omega) (by omega)]; omega
        · refine evF (dF (by omega)) (equ_j0 hN0 ho ?_ ?_ q)
          · unfold sdv; rw [if_neg h4', wrap_i64', w64 (by omega) (by omega)]; omega
          · unfold sdv; rw [if_neg h4', wrap_i64', w64 (by omega) (by omega)]; omega
    · rw [decide_eq_false he]
      exact evT rfl (Ev.now _)
  · exact Ev.bind (right_F hR) (evT (nT (by decide)) (Ev.now _))
end Go.Proofs.YtokaigninenjhaaQ
