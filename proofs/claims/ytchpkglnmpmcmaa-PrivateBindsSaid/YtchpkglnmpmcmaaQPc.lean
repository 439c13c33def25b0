/- Which openings are accepted. -/
import Derived.Test.YtchpkglnmpmcmaaQP
namespace Go.Proofs.YtchpkglnmpmcmaaQ
set_option linter.unusedVariables false
set_option linter.unusedSimpArgs false
open Go Go.RowKit Go.Proofs.Ytchpkglnmpmcmaa.P47 Go.Proofs.Ytchpkglnmpmcmaa.V47 Go.Proofs.YtchpkglnmpmcmaaW.PrintWords Go.Proofs.YtchpkglnmpmcmaaW.PrintLast Go.Proofs.YtchpkglnmpmcmaaW.PrintMore
/-- What is said of an opening of place i, for n blocks. -/
def chk (r : Int) (n i : Nat) (o : OT) : Int :=
  if o.2.2.1 = (if i = 0 then (n : Int) else 0) then (if (sides (n + 1) i).length = o.2.2.2.2.length then (if fold (leaf o) o.2.2.2.2 (sides (n + 1) i) = r then 0 else 470) else 470) else 470
theorem pcheck_j1 {r : Int} {n i : Nat} {o : OT} (hn : n ≤ 64) (hi : i ≤ n) (ho : o.1 = i) (hp : ∀ x ∈ o.2.2.2.2, U x) : Ev (fun k => private_Check.j1 k r n o (if i = 0 then (n : Int) else 0) false) (chk r n i o) := by
  refine evX (fun k => private_Check.j1_eq k _ _ _ _ _) ?_
  refine evF (by decide) ?_
  unfold chk
  by_cases hb : o.2.2.1 = (if i = 0 then (n : Int) else 0)
  · rw [if_pos hb]
    refine evF (nF hb) (Ev.bind (a := leaf o) ⟨0, fun k _ => leaf_f k _⟩ ?_)
    have e1 : IntKind.wrap IntKind.i64 ((n : Int) + 1) = ((n + 1 : Nat) : Int) := by rw [wrap_i64', w64 (by omega) (by omega)]; omega
    have h := check_f (r := r) (leaf := leaf o) (n := n + 1) (i := i) (p := o.2.2.2.2) (by omega) (by omega) hp (leaf_U o)
    rw [e1, ho]
    refine Ev.bind h ?_
    by_cases q : (sides (n + 1) i).length = o.2.2.2.2.length
    · by_cases q2 : fold (leaf o) o.2.2.2.2 (sides (n + 1) i) = r
      · simp only [q, q2, if_true]
        exact evF (nF rfl) (Ev.now _)
      · simp only [q, q2, if_true, if_false]
        exact evT (nT (by decide)) (Ev.now _)
    · simp only [q, if_false]
      exact evT (nT (by decide)) (Ev.now _)
  · rw [if_neg hb]
    exact evT (nT hb) (Ev.now _)
theorem pcheck_f {r : Int} {n i : Nat} {o : OT} (hn : n ≤ 64) (hi : i ≤ n) (ho : o.1 = i) (hp : ∀ x ∈ o.2.2.2.2, U x) : Ev (fun k => private_Check.m k r n o) (chk r n i o) := by
  refine evX (fun k => private_Check.m_eq k _ _ _) ?_
  have j0 : Ev (fun k => private_Check.j0 k r n o (if i = 0 then (n : Int) else 0)) (chk r n i o) := by
    refine evX (fun k => private_Check.j0_eq k _ _ _ _) ?_
    refine evF (dF (by omega)) (evF (dF (by omega)) (evF (dF (by omega)) ?_))
    rw [show decide (o.1 > (n : Int)) = false from decide_eq_false (by omega)]
    exact pcheck_j1 hn hi ho hp
  by_cases h0 : i = 0
  · rw [if_pos h0] at j0
    exact evT (bT (by omega)) j0
  · rw [if_neg h0] at j0
    exact evF (bF (by omega)) j0
/-- A place that is not there. -/
theorem pcheck_arg {r n : Int} {o : OT} (h : n < 0 ∨ 64 < n ∨ o.1 < 0 ∨ n < o.1) : Ev (fun k => private_Check.m k r n o) 1 := by
  refine evX (fun k => private_Check.m_eq k _ _ _) ?_
  have j0 : ∀ v, Ev (fun k => private_Check.j0 k r n o v) 1 := fun v => by
    have j1 : Ev (fun k => private_Check.j1 k r n o v true) 1 := evX (fun k => private_Check.j1_eq k _ _ _ _ _) (evT rfl (Ev.now _))
    refine evX (fun k => private_Check.j0_eq k _ _ _ _) ?_
    by_cases h1 : n < 0
    · exact evT (dT h1) j1
    refine evF (dF h1) ?_
    by_cases h2 : n > 64
    · exact evT (dT h2) j1
    refine evF (dF h2) ?_
    by_cases h3 : o.1 < 0
    · exact evT (dT h3) j1
    refine evF (dF h3) ?_
    rw [show decide (o.1 > n) = true from decide_eq_true (by omega)]
    exact j1
  by_cases h0 : o.1 = 0
  · exact evT (bT h0) (j0 _)
  · exact evF (bF h0) (j0 _)
theorem checked_of {r n : Int} {o : OT} {c : Int} (h : Ev (fun k => private_Check.m k r n o) c) : Ev (fun k => plexuslaw47_checked.m k r n o) c := by
  refine evX (fun k => plexuslaw47_checked.m_eq k _ _ _) ?_
  refine Ev.bind (a := o) ⟨0, fun k _ => plexuslaw47_to.m_eq k _⟩ ?_
  exact Ev.bind h (Ev.now _)
theorem checked_f {r : Int} {n i : Nat} {o : OT} (hn : n ≤ 64) (hi : i ≤ n) (ho : o.1 = i) (hp : ∀ x ∈ o.2.2.2.2, U x) : Ev (fun k => plexuslaw47_checked.m k r n o) (chk r n i o) := checked_of (pcheck_f hn hi ho hp)
theorem leaf_opn (v : Int) (l : List Int) (s : Int) (i : Nat) : leaf (opn v l s i) = leaf (plc v l s i) := by
  unfold leaf opn; rfl
theorem opn_at (v : Int) (l : List Int) (s : Int) (i : Nat) : (opn v l s i).1 = i := by
  unfold opn plc
  by_cases h : i = 0
  · subst h; rfl
  · rw [if_neg h]
theorem opn_b (v : Int) (l : List Int) (s : Int) (i : Nat) : (opn v l s i).2.2.1 = if i = 0 then (l.length : Int) else 0 := by
  unfold opn plc
  by_cases h : i = 0
  · rw [if_pos h, if_pos h]
  · rw [if_neg h, if_neg h]
theorem opn_path (v : Int) (l : List Int) (s : Int) (i : Nat) : (opn v l s i).2.2.2.2 = path 0 (lvs v l s) i := rfl
theorem opn_pathU (v : Int) (l : List Int) (s : Int) (i : Nat) : ∀ x ∈ (opn v l s i).2.2.2.2, U x := path_U 0 U0 _ _ rfl (lvs_U v l s) i
/-- What is shown is accepted. -/
theorem chk_opn (v : Int) (l : List Int) (s : Int) {i : Nat} (hi : i ≤ l.length) : chk (cmt v l s) l.length i (opn v l s i) = 0 := by
  unfold chk
  rw [if_pos (opn_b v l s i), if_pos (by rw [opn_path, path_len 0 (l.length + 1) _ (lvs_len v l s)]), if_pos]
  rw [opn_path, leaf_opn]
  have h := fold_path 0 (l.length + 1) (lvs v l s) (lvs_len v l s) i (by omega)
  rw [List.getD_eq_getElem?_getD, lvs_get v l s hi] at h
  exact h
end Go.Proofs.YtchpkglnmpmcmaaQ
