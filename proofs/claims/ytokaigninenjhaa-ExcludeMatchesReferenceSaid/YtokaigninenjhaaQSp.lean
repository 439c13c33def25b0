/- Local: what Solve answers. -/
import Derived.Test.YtokaigninenjhaaQSo
namespace Go.Proofs.YtokaigninenjhaaQ
set_option linter.unusedVariables false
set_option linter.unusedSimpArgs false
open Go Go.RowKit Go.Proofs.Ytokaigninenjhaa.P22 Go.Proofs.Ytokaigninenjhaa.V22 Go.Proofs.YtokaigninenjhaaW.PrintWords Go.Proofs.YtokaigninenjhaaW.PrintLast Go.Proofs.YtokaigninenjhaaW.PrintMore
theorem go1_some {a b : Int} {x : Nat} {w : Nat × Nat} : ∀ {m y : Nat}, go1 a b x m y = some w → w.1 = x ∧ y ≤ w.2 ∧ w.2 < y + m ∧ goodB a b w.1 w.2 = true
  | 0, y, h => by cases h
  | m + 1, y, h => by
    unfold go1 at h
    by_cases g : goodB a b x y = true
    · rw [if_pos g] at h
      cases h
      exact ⟨rfl, Nat.le_refl _, by omega, g⟩
    · rw [if_neg g] at h
      obtain ⟨h1, h2, h3, h4⟩ := go1_some h
      exact ⟨h1, by omega, by omega, h4⟩
theorem go1_none {a b : Int} {x : Nat} : ∀ {m y : Nat}, go1 a b x m y = none → ∀ v, y ≤ v → v < y + m → goodB a b x v = false
  | 0, y, h, v, h1, h2 => by omega
  | m + 1, y, h, v, h1, h2 => by
    unfold go1 at h
    by_cases g : goodB a b x y = true
    · rw [if_pos g] at h; cases h
    · rw [if_neg g] at h
      by_cases e : v = y
      · subst e; simpa using g
      · exact go1_none h v (by omega) (by omega)
theorem go0_some {a b : Int} {w : Nat × Nat} : ∀ {m x : Nat}, go0 a b m x = some w → x ≤ w.1 ∧ w.1 < x + m ∧ w.2 ≤ 14 ∧ goodB a b w.1 w.2 = true
  | 0, x, h => by cases h
  | m + 1, x, h => by
    unfold go0 at h
    cases hg : go1 a b x 15 0 with
    | some v =>
      rw [hg] at h
      cases h
      obtain ⟨h1, h2, h3, h4⟩ := go1_some hg
      exact ⟨by omega, by omega, by omega, h4⟩
    | none =>
      rw [hg] at h
      obtain ⟨h1, h2, h3, h4⟩ := go0_some (show go0 a b m (x + 1) = some w from h)
      exact ⟨by omega, by omega, h3, h4⟩
theorem go0_none {a b : Int} : ∀ {m x : Nat}, go0 a b m x = none → ∀ u v, x ≤ u → u < x + m → v ≤ 14 → goodB a b u v = false
  | 0, x, h, u, v, h1, h2, h3 => by omega
  | m + 1, x, h, u, v, h1, h2, h3 => by
    unfold go0 at h
    cases hg : go1 a b x 15 0 with
    | some v => rw [hg] at h; cases h
    | none =>
      rw [hg] at h
      by_cases e : u = x
      · subst e; exact go1_none hg v (by omega) (by omega)
      · exact go0_none (show go0 a b m (x + 1) = none from h) u v (by omega) (by omega) h3
theorem sqB_rt {n : Int} (h : sqB n = true) : 0 ≤ n ∧ rt n * rt n = n ∧ 0 ≤ rt n := by
  unfold sqB at h
  unfold rt
  split at h
  · cases h
  · rename_i h0
    rw [if_neg h0]
    exact ⟨by omega, by rw [← Int.natCast_mul]; exact eq_of_beq h, by omega⟩
theorem goodB_iff {a b : Int} {x y : Nat} : goodB a b x y = true ↔ 0 < x + y ∧ ∃ z : Nat, a * ((x : Int) * x) + b * ((y : Int) * y) = (z : Int) * z := by
  have e : nn a b x y = a * ((x : Int) * x) + b * ((y : Int) * y) := by unfold nn; rw [Int.mul_assoc, Int.mul_assoc]
  unfold goodB
  rw [Bool.and_eq_true, decide_eq_true_eq, e]
  constructor
  · intro ⟨h1, h2⟩
    obtain ⟨q1, q2, q3⟩ := sqB_rt h1
    refine ⟨h2, (rt (a * ((x : Int) * x) + b * ((y : Int) * y))).toNat, ?_⟩
    rw [Int.toNat_of_nonneg q3]; exact q2.symm
  · intro ⟨h1, z, hz⟩
    refine ⟨?_, h1⟩
    rw [hz, ← Int.natCast_mul]
    exact sqB_iff.2 ⟨z, rfl⟩
/-- What Solve answers for two small numbers. -/
def SolveC (a b : Int) (c : Bool × (Int × Int × Int) × Int) : Prop :=
  (∃ p : Nat, c = (false, (0, 0, 0), (p : Int)) ∧ p ≤ 200 ∧ Rel p a b ∧ Hm p a b = -1 ∧ ∀ j < p, Rel j a b → Hm j a b ≠ -1) ∨ ((∀ j, Rel j a b → Hm j a b ≠ -1) ∧ ∃ w, go0 a b 15 0 = some w ∧ c = (resS a b w).1)
theorem Rel.le {p : Nat} {a b : Int} (h : Rel p a b) : p ≤ 199 := by
  rcases h with h | h | h
  · omega
  · omega
  · have := oddP_bd p h.1; omega
theorem search_e {a b : Int} (ha : Lt a) (hb : Lt b) (h : ∀ j, Rel j a b → Hm j a b ≠ -1) : ∃ w, go0 a b 15 0 = some w ∧ Ev (fun k => local_Solve.j0 k a b true 0) (resS a b w) := by
  have hs : ∃ w, go0 a b 15 0 = some w := by
    cases hg : go0 a b 15 0 with
    | some w => exact ⟨w, rfl⟩
    | none =>
      exfalso
      rcases whole ha hb with ⟨p, h1, h2⟩ | ⟨x, y, z, h1, h2, h3, h4⟩
      · exact h p h1 h2
      · have := go0_none hg x y (by omega) (by omega) h2
        rw [goodB_iff.2 ⟨h3, z, h4⟩] at this
        cases this
  obtain ⟨w, hw⟩ := hs
  refine ⟨w, hw, evX (fun k => local_Solve.j0_eq k _ _ _ _) (evF (by decide) ?_)⟩
  exact (solve_l0 ha hb 15 0 rfl (by decide) (fun w' hw' => by rw [hw] at hw'; cases hw'; rfl) (fun hn => by rw [hw] at hn; cases hn)).diag
theorem solve_l2 {a b : Int} (ha : Lt a) (hb : Lt b) : ∀ (m q : Nat), 201 - q = m → q ≤ 201 → (∀ j < q, Rel j a b → Hm j a b ≠ -1) → ∃ c, Ev2 (fun n k => local_Solve.l2 n k a b (q : Int)) (c, 0) ∧ SolveC a b c
  | 0, q, hm, hq, hj => by
    obtain ⟨w, hw, he⟩ := search_e ha hb (fun j hr => hj j (by have := hr.le; omega) hr)
    refine ⟨_, Ev2.step (fun n k => local_Solve.l2_succ n k _ _ _) (ev2F (dF (by omega)) (Ev2.of he)), .inr ⟨fun j hr => hj j (by have := hr.le; omega) hr, w, hw, rfl⟩⟩
  | m + 1, q, hm, hq, hj => by
    have e1 : IntKind.wrap IntKind.i64 ((q : Int) + 1) = ((q + 1 : Nat) : Int) := by rw [show (q : Int) + 1 = ((q + 1 : Nat) : Int) by omega, i64n (by omega)]
    have nxt : (Rel q a b → Hm q a b ≠ -1) → ∃ c, Ev2 (fun n k => local_Solve.l2 n k a b (IntKind.wrap IntKind.i64 ((q : Int) + 1))) (c, 0) ∧ SolveC a b c := fun h => by
      rw [e1]
      refine solve_l2 ha hb m (q + 1) (by omega) (by omega) (fun j hlt hr => ?_)
      by_cases e : j = q
      · subst e; exact h hr
      · exact hj j (by omega) hr
    have hil : ∀ {f g : Nat → Nat → Option ((Bool × (Int × Int × Int) × Int) × Int)}, Rel q a b → (∀ n k, f n k = local_Solve.j0 k a b false (q : Int)) → (∀ n k, g n k = local_Solve.l2 n k a b (IntKind.wrap IntKind.i64 ((q : Int) + 1))) → ∃ c, Ev2 (fun n k => Option.bind (local_Hilbert.m k a b (q : Int)) fun (r : Int × Int) => if (r.1 == -1) = true then f n k else g n k) (c, 0) ∧ SolveC a b c := fun {f g} hr hf hg => by
      have hh := HilbertA_e (q := (q : Int)) ha hb
      rw [HA_pl hr.pl] at hh
      by_cases h1 : Hm q a b = -1
      · refine ⟨(false, (0, 0, 0), (q : Int)), Ev2.bind hh (ev2T (bT h1) (Ev2.congr hf ?_)), .inl ⟨q, rfl, by omega, hr, h1, hj⟩⟩
        exact Ev2.congr (fun n k => local_Solve.j0_eq k _ _ _ _) (ev2T rfl (Ev2.now _))
      · obtain ⟨c, hc, hs⟩ := nxt (fun _ => h1)
        exact ⟨c, Ev2.bind hh (ev2F (bF h1) (Ev2.congr hg hc)), hs⟩
    by_cases q0 : q = 0
    · obtain ⟨c, hc, hs⟩ := hil (.inl q0) (fun _ _ => rfl) (fun _ _ => rfl)
      exact ⟨c, Ev2.step (fun n k => local_Solve.l2_succ n k _ _ _) (ev2T (dT (by omega)) (ev2T (bT (by omega)) hc)), hs⟩
    · by_cases q2 : q = 2
      · obtain ⟨c, hc, hs⟩ := hil (.inr (.inl q2)) (fun _ _ => rfl) (fun _ _ => rfl)
        exact ⟨c, Ev2.step (fun n k => local_Solve.l2_succ n k _ _ _) (ev2T (dT (by omega)) (ev2F (bF (by omega)) (ev2T (bT (by omega)) hc))), hs⟩
      · have hp := (primes_any (q := (q : Int)) (by omega)).1
        by_cases pq : pB (q : Int) = true
        · rw [pq] at hp
          have ho : q ∈ oddP := (pB_pl pq (by omega)).resolve_left q2
          have bab := mulbd ha.abs hb.abs
          have ed : (Go.Vx.divF BinOp.rem IntKind.i64 (IntKind.wrap IntKind.i64 (a * b)) (q : Int) == 0) = decide (a * b % (q : Int) = 0) := by
            rw [wrap_i64', w64 (by omega) (by omega), rem_tmod, Bool.eq_iff_iff, beq_iff_eq, decide_eq_true_iff, ← Int.dvd_iff_tmod_eq_zero, ← Int.dvd_iff_emod_eq_zero]
          by_cases hd : a * b % (q : Int) = 0
          · obtain ⟨c, hc, hs⟩ := hil (.inr (.inr ⟨ho, hd⟩)) (fun _ _ => rfl) (fun _ _ => rfl)
            exact ⟨c, Ev2.step (fun n k => local_Solve.l2_succ n k _ _ _) (ev2T (dT (by omega)) (ev2F (bF (by omega)) (ev2F (bF (by omega)) (Ev2.bind hp (ev2T rfl (ev2F (by omega) (ev2T (by rw [ed, decide_eq_true hd]) hc))))))), hs⟩
          · obtain ⟨c, hc, hs⟩ := nxt (fun hr => by
              rcases hr with h | h | h
              · exact absurd h q0
              · exact absurd h q2
              · exact absurd h.2 hd)
            exact ⟨c, Ev2.step (fun n k => local_Solve.l2_succ n k _ _ _) (ev2T (dT (by omega)) (ev2F (bF (by omega)) (ev2F (bF (by omega)) (Ev2.bind hp (ev2T rfl (ev2F (by omega) (ev2F (by rw [ed, decide_eq_false hd]; decide) hc))))))), hs⟩
        · rw [show pB (q : Int) = false from by simpa using pq] at hp
          obtain ⟨c, hc, hs⟩ := nxt (fun hr => by
              rcases hr with h | h | h
              · exact absurd h q0
              · exact absurd h q2
              · exact absurd (pl_pB (.inr h.1)) pq)
          exact ⟨c, Ev2.step (fun n k => local_Solve.l2_succ n k _ _ _) (ev2T (dT (by omega)) (ev2F (bF (by omega)) (ev2F (bF (by omega)) (Ev2.bind hp (ev2F (by decide) hc))))), hs⟩
/-- **What Solve answers.** -/
theorem solve_e {a b : Int} (ha : Lt a) (hb : Lt b) : ∃ c, Ev (fun k => local_Solve.m k a b) (c, 0) ∧ SolveC a b c := by
  obtain ⟨c, hc, hs⟩ := solve_l2 ha hb 201 0 rfl (by decide) (fun j hj => by omega)
  exact ⟨c, evX (fun k => local_Solve.m_eq k _ _) (Ev.bind (small_e ha.1 ha.2.1 ha.2.2) (evF (by decide) (Ev.bind (small_e hb.1 hb.2.1 hb.2.2) (evF (by decide) hc.diag)))), hs⟩
theorem solve_big {a b : Int} (h : ¬ Lt a ∨ ¬ Lt b) : Ev (fun k => local_Solve.m k a b) ((false, (0, 0, 0), 0), 1) := by
  refine evX (fun k => local_Solve.m_eq k _ _) (Ev.bind (small_any a) ?_)
  by_cases ha : Lt a
  · rw [decide_eq_true ha]
    refine evF (by decide) (Ev.bind (small_any b) ?_)
    rw [decide_eq_false (h.resolve_left (fun q => q ha))]
    exact evT rfl (Ev.now _)
  · rw [decide_eq_false ha]
    exact evT rfl (Ev.now _)
theorem hilbert_big {a b : Int} (h : ¬ Lt a ∨ ¬ Lt b) (q : Int) : Ev (fun k => local_Hilbert.m k a b q) (0, 1) := by
  refine evX (fun k => local_Hilbert.m_eq k _ _ _) (Ev.bind (small_any a) ?_)
  by_cases ha : Lt a
  · rw [decide_eq_true ha]
    refine evF (by decide) (Ev.bind (small_any b) ?_)
    rw [decide_eq_false (h.resolve_left (fun q => q ha))]
    exact evT rfl (Ev.now _)
  · rw [decide_eq_false ha]
    exact evT rfl (Ev.now _)
end Go.Proofs.YtokaigninenjhaaQ
