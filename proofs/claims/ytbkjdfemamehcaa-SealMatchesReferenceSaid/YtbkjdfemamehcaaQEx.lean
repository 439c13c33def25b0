/- The examples of the laws of seal come out true. -/
import Derived.Test.YtbkjdfemamehcaaQE
namespace Go.Proofs.YtbkjdfemamehcaaQ
set_option linter.unusedVariables false
set_option linter.unusedSimpArgs false
open Go Go.RowKit Go.Proofs.Ytbkjdfemamehcaa.P03 Go.Proofs.Ytbkjdfemamehcaa.V03 Go.Proofs.YtbkjdfemamehcaaW.PrintWords Go.Proofs.YtbkjdfemamehcaaW.PrintLast Go.Proofs.YtbkjdfemamehcaaW.PrintMore
theorem U5 : U 5 := ⟨by decide, by decide⟩
theorem U6 : U 6 := ⟨by decide, by decide⟩
theorem U7 : U 7 := ⟨by decide, by decide⟩
theorem U567' : ∀ x ∈ ([5, 6] : List Int), U x := fun x hx => U567 x (by simp at hx ⊢; omega)
theorem open3 : Ev (fun k => plexuslaw03_opened.m k [5, 6, 7] 3) ([], 1) := by
  refine evX (fun k => plexuslaw03_opened.m_eq k _ _) (Ev.bind (a := ([], 1)) ?_ (Ev.now _))
  unfold seal_Open.f
  exact evF (by decide) (evT (by decide) (Ev.now _))
theorem root0 : Ev (fun k => seal_Root.f k []) (wd []) := by
  refine Ev.step (fun k => by rw [seal_Root.f]) ?_
  exact evT rfl (Ev.bind (a := wd []) (Ev.now _) (Ev.now _))
theorem check_e {r lf : Int} {n i : Nat} {p : List Int} (hi : i < n) (hn : n ≤ 4096) (hp : ∀ x ∈ p, U x) (hl : U lf) : Ev (fun k => plexuslaw03_check.m k r ((n : Int), p) ((i : Int), lf)) (if (sides n i).length = p.length then (if fold lf p (sides n i) = r then 0 else 6) else 6) := by
  refine evX (fun k => plexuslaw03_check.m_eq k _ _ _) (Ev.bind (check_f (r := r) hi hn hp hl) (Ev.now _))
theorem examples03 : Ev (fun k => plexuslaw03_examples.m k) true := by
  refine evX (fun k => plexuslaw03_examples.m_eq k) ?_
  have o2 := opened_m (l := [5, 6, 7]) (i := 2) (by simp) (by simp) U567
  have o0 := opened_m (l := [5, 6, 7]) (i := 0) (by simp) (by simp) U567
  rw [path32] at o2
  rw [path30] at o0
  have r3 := root_f 3 [5, 6, 7] rfl (by omega) (by omega) U567
  rw [root3] at r3
  have r2 := root_f 2 [5, 6] rfl (by omega) (by omega) U567'
  rw [root2] at r2
  have r1 := root_f 1 [5] rfl (by omega) (by omega) (fun x hx => by rw [List.mem_singleton.1 hx]; exact U5)
  rw [root_one] at r1
  refine Ev.bind o2 (Ev.bind o0 (Ev.bind open3 (Ev.bind (sjoin_e U5 U6) ?_)))
  refine evF (nF rfl) (evF (nF rfl) (evF (nF rfl) (Ev.bind (same3_f [jn 5 6] (by simp)) (evF (notF rfl) (Ev.bind (same3_f [6, 7] (by simp)) (evF (notF rfl) ?_))))))
  refine Ev.bind r1 (evF (nF rfl) (Ev.bind r2 (evF (nF rfl) (Ev.bind r3 (Ev.bind (sjoin_e (jn_U 5 6) U7) (evF (nF rfl) ?_))))))
  refine Ev.bind (step_e U0 U0) (evT (bT s00) (Ev.bind (step_e U0 ⟨by decide, by decide⟩) (evT (nT s01) ?_)))
  have st := step_e (a := 3) (b := 4) ⟨by decide, by decide⟩ ⟨by decide, by decide⟩
  rw [s34] at st
  refine Ev.bind st (Ev.bind back34 (evT (bT rfl) (Ev.bind root0 (Ev.bind (a := wd []) (Ev.now _) (evT (bT rfl) ?_)))))
  have hs : (sides 3 2).length = 1 := by
    have := path_len 0 3 [5, 6, 7] rfl 2
    rw [path32] at this
    simpa using this.symm
  have hf := fold_path 0 3 [5, 6, 7] rfl 2 (by omega)
  rw [path32, root3] at hf
  have c1 := check_e (r := jn (jn 5 6) 7) (lf := 7) (n := 3) (i := 2) (p := [jn 5 6]) (by omega) (by omega) (fun x hx => by rw [List.mem_singleton.1 hx]; exact jn_U _ _) U7
  have hf' : fold 7 [jn 5 6] (sides 3 2) = jn (jn 5 6) 7 := hf
  rw [if_pos (show (sides 3 2).length = ([jn 5 6] : List Int).length from hs), if_pos hf'] at c1
  have c2 := check_e (r := jn (jn 5 6) 7) (lf := 7) (n := 3) (i := 2) (p := [6, 7]) (by omega) (by omega) (fun x hx => U567 x (by simp at hx ⊢; omega)) U7
  rw [if_neg (show ¬ (sides 3 2).length = ([6, 7] : List Int).length by rw [hs]; decide)] at c2
  refine Ev.bind r3 (Ev.bind c1 (evT (bT rfl) (Ev.bind r3 (Ev.bind c2 ?_))))
  exact Ev.now _
end Go.Proofs.YtbkjdfemamehcaaQ
