/- LocalMatchesReference: factors and Legendre symbols of both. -/
import Derived.Test.YtakimeeakmlemaaQAn
namespace Go.Proofs.YtakimeeakmlemaaQ
set_option linter.unusedVariables false
set_option linter.unusedSimpArgs false
open Go Go.RowKit Go.Proofs.Ytakimeeakmlemaa.P22 Go.Proofs.Ytakimeeakmlemaa.V22 Go.Proofs.YtakimeeakmlemaaW.PrintWords Go.Proofs.YtakimeeakmlemaaW.PrintLast Go.Proofs.YtakimeeakmlemaaW.PrintMore
/-! ### factors -/
theorem i64s {n : Nat} (h : n < 9223372036854775807) : IntKind.wrap IntKind.i64 ((n : Int) + 1) = ((n + 1 : Nat) : Int) := by
  rw [show (n : Int) + 1 = ((n + 1 : Nat) : Int) by omega, i64n (by omega)]
theorem rl1 {p u : Nat} (hp : 2 ≤ p) (hp2 : p ≤ 1000000) (hu : ¬ p ∣ u) (hu1 : 1 ≤ u) {l : LN} (hl : l.length ≤ 1000002) {r : List (Int × Int) × Int} :
    ∀ (j c : Nat), p ^ j * u ≤ 1000000 → c + j ≤ 2000000 → Ev2 (fun n k => plexusref22_Factors.l0 n k (u : Int) ((p + 1 : Nat) : Int) (castL (if 0 < c + j then l ++ [(p, c + j)] else l))) r →
      Ev3 (fun n1 n0 k => plexusref22_Factors.l1 n1 k n0 (castL l) (p : Int) ((p ^ j * u : Nat) : Int) (c : Int)) r
  | 0, c, h1, h2, h3 => by
    refine Ev3.step (fun n1 n0 k => plexusref22_Factors.l1_succ n1 k n0 _ _ _ _) (ev3F (by omega) (ev3F ?_ ?_))
    · rw [dvd_beq (by omega), decide_eq_true_iff]; simpa using hu
    · rw [i64s (by omega)]
      have e : p ^ 0 * u = u := by simp
      rw [e]
      by_cases hc : 0 < c
      · rw [if_pos (by omega), castL_app] at h3
        refine ev3T (dT (by omega)) (ev3T ?_ (Ev3.of h3))
        rw [castL_len]; simp; omega
      · rw [if_neg (by omega)] at h3
        exact ev3F (dF (by omega)) (Ev3.of h3)
  | j + 1, c, h1, h2, h3 => by
    have e1 : p ^ (j + 1) * u = p * (p ^ j * u) := by rw [Nat.pow_succ, Nat.mul_comm (p ^ j) p, Nat.mul_assoc]
    have h4 : p ^ j * u ≤ p * (p ^ j * u) := Nat.le_mul_of_pos_left _ (by omega)
    rw [show c + (j + 1) = c + 1 + j by omega] at h3
    have ih := rl1 hp hp2 hu hu1 hl j (c + 1) (by omega) (by omega) h3
    refine Ev3.step (fun n1 n0 k => plexusref22_Factors.l1_succ n1 k n0 _ _ _ _) (ev3F (by omega) (ev3T ?_ (ev3F (by omega) ?_)))
    · rw [dvd_beq (by omega), decide_eq_true_iff, e1]; exact Nat.dvd_mul_right _ _
    · rw [i64s (by omega), quo_nat (by omega) (by omega)]
      have e2 : p ^ (j + 1) * u / p = p ^ j * u := by rw [e1]; exact Nat.mul_div_cancel_left _ (by omega)
      rw [e2]
      exact ih
theorem pow_gt (p : Nat) (hp : 2 ≤ p) : ∀ j : Nat, j < p ^ j
  | 0 => by simp
  | j + 1 => by
    have := pow_gt p hp j
    have h2 := Nat.mul_le_mul_left (p ^ j) hp
    rw [Nat.pow_succ]; omega
theorem facJ_l0 {N : Nat} (hN : N ≤ 1000000) (hN1 : 1 ≤ N) : ∀ (m n p : Nat) (l : LN), 1001 - p = m → p ≤ 1001 → FI N n p l →
    ∃ r : LN, FL N r ∧ Ev2 (fun a k => local_Factors.l0 a k (n : Int) (p : Int) (castL l)) (castL r, 0) ∧ Ev2 (fun a k => plexusref22_Factors.l0 a k (n : Int) (p : Int) (castL l)) (castL r, 0)
  | m, n, p, l, hm, hp, h => by
    have hnN := prodL_dvd h.prod hN1
    have hpp := Nat.mul_le_mul hp hp
    have h2 := h.p2
    have h1 := h.pos
    have hlen := h.len
    have ew : IntKind.wrap IntKind.i64 ((p : Int) * (p : Int)) = ((p * p : Nat) : Int) := by rw [← Int.natCast_mul, i64n (by omega)]
    by_cases hle : p * p ≤ n
    · have hp1000 : p ≤ 1000 := by
        rcases Nat.lt_or_ge 1000 p with q | q
        · exfalso
          have := Nat.mul_le_mul (show 1001 ≤ p from q) (show 1001 ≤ p from q)
          omega
        · exact q
      obtain ⟨m', rfl⟩ : ∃ m', m = m' + 1 := ⟨m - 1, by omega⟩
      obtain ⟨j, u, e1, e2, e3, e4⟩ := val_e h2 h1 (by omega)
      have hn2 : 1 < n := by
        have := Nat.mul_le_mul h2 h2
        omega
      have hju : j ≤ 2000000 := by
        have q1 := pow_gt p h2 j
        have q2 := Nat.le_mul_of_pos_right (p ^ j) e3
        omega
      have einc := i64s (n := p) (by omega)
      have ref : ∀ r : List (Int × Int) × Int, Ev2 (fun n k => plexusref22_Factors.l0 n k (u : Int) ((p + 1 : Nat) : Int) (castL (if 0 < j then l ++ [(p, j)] else l))) r → Ev2 (fun a k => plexusref22_Factors.l0 a k (n : Int) (p : Int) (castL l)) r := fun r hr => by
        refine Ev2.step (fun a k => plexusref22_Factors.l0_succ a k _ _ _) (ev2T (dT (by omega)) ?_)
        rw [ew]
        refine ev2F (dF (by omega)) (Ev2.congr (fun a k => plexusref22_Factors.j0_eq k a _ _ _) ?_)
        have := rl1 h2 (by omega) e2 e3 (l := l) (by omega) (r := r) j 0 (by omega) (by omega) (by simpa using hr)
        rw [← e1] at this
        exact this.diag
      by_cases hj : 1 ≤ j
      · obtain ⟨r, hr, he, he2⟩ := facJ_l0 hN hN1 m' u (p + 1) (l ++ [(p, j)]) (by omega) (by omega) (h.take hN hN1 e1 hj e2 e3)
        refine ⟨r, hr, Ev2.step (fun a k => local_Factors.l0_succ a k _ _ _) ?_, ref _ (by rw [if_pos (by omega)]; exact he2)⟩
        rw [ew, einc]
        refine ev2T (dT (by omega)) (Ev2.bind e4 (ev2T (dT (by show (j : Int) > 0; omega)) (ev2T ?_ ?_)))
        · rw [castL_len]; simp; omega
        · rw [castL_app] at he; exact he
      · have hj0 : j = 0 := by omega
        rw [hj0] at e1
        have hnu : n = u := by simpa using e1
        obtain ⟨r, hr, he, he2⟩ := facJ_l0 hN hN1 m' n (p + 1) l (by omega) (by omega) (h.next (by rw [hnu]; exact e2))
        refine ⟨r, hr, Ev2.step (fun a k => local_Factors.l0_succ a k _ _ _) ?_, ref _ (by rw [if_neg (by omega), ← hnu]; exact he2)⟩
        rw [ew, einc]
        refine ev2T (dT (by omega)) (Ev2.bind e4 (ev2F (dF (by show ¬ ((j : Int) > 0); omega)) ?_))
        exact he
    · by_cases hn1 : 1 < n
      · refine ⟨l ++ [(n, 1)], h.last hN hN1 (by omega) hn1, Ev2.step (fun a k => local_Factors.l0_succ a k _ _ _) ?_, ?_⟩
        · rw [ew]
          refine ev2F (dF (by omega)) (ev2T (dT (by omega)) (ev2T ?_ ?_))
          · rw [castL_len]; simp; omega
          · rw [castL_app]; exact Ev2.now _
        · refine Ev2.step (fun a k => plexusref22_Factors.l0_succ a k _ _ _) (ev2T (dT (by omega)) ?_)
          rw [ew]
          refine ev2T (dT (by omega)) (Ev2.congr (fun a k => plexusref22_Factors.j0_eq k a _ _ _) ?_)
          have := rl1 (p := n) (u := 1) hn1 (by omega) (fun z => by have := Nat.le_of_dvd (by decide) z; omega) (Nat.le_refl 1) (l := l) (by omega) (r := (castL (l ++ [(n, 1)]), 0)) 1 0 (by simp; omega) (by omega) (by
            refine Ev2.step (fun a k => plexusref22_Factors.l0_succ a k _ _ _) (ev2F (dF (by decide)) ?_)
            exact Ev2.now _)
          have e : n ^ 1 * 1 = n := by simp
          rw [e] at this
          exact this.diag
      · have hn : n = 1 := by omega
        subst hn
        refine ⟨l, h.done hN (by omega), Ev2.step (fun a k => local_Factors.l0_succ a k _ _ _) ?_, Ev2.step (fun a k => plexusref22_Factors.l0_succ a k _ _ _) (ev2F (dF (by decide)) (Ev2.now _))⟩
        rw [ew]
        exact ev2F (dF (by omega)) (ev2F (dF (by omega)) (Ev2.now _))
/-- Both list the same factors. -/
theorem fac_both {n : Int} : ∃ (r : LN) (e : Int), r.length ≤ 1000000 ∧ Ev (fun k => local_Factors.m k n) (castL r, e) ∧ Ev (fun k => plexusref22_Factors.m k n) (castL r, e) := by
  by_cases h1 : n < 1
  · exact ⟨[], 1, by simp, evX (fun k => local_Factors.m_eq k _) (evT (dT h1) (Ev.now _)), evX (fun k => plexusref22_Factors.m_eq k _) (evT (dT h1) (Ev.now _))⟩
  · by_cases h2 : n > 1000000
    · exact ⟨[], 1, by simp, evX (fun k => local_Factors.m_eq k _) (evF (dF h1) (evT (dT h2) (Ev.now _))), evX (fun k => plexusref22_Factors.m_eq k _) (evF (dF h1) (evT (dT h2) (Ev.now _)))⟩
    · obtain ⟨N, rfl⟩ := Int.eq_ofNat_of_zero_le (show 0 ≤ n by omega)
      have h0 : FI N N 2 [] := ⟨by omega, by omega, by simp [prodL], (fun d h1 h2 => by omega), (fun x hx => by cases hx), List.Pairwise.nil, by simp [evenL], by simp⟩
      obtain ⟨r, hr, he, he2⟩ := facJ_l0 (by omega) (by omega) _ N 2 [] rfl (by omega) h0
      refine ⟨r, 0, ?_, evX (fun k => local_Factors.m_eq k _) (evF (dF h1) (evF (dF h2) he.diag)), evX (fun k => plexusref22_Factors.m_eq k _) (evF (dF h1) (evF (dF h2) he2.diag))⟩
      -- the primes rise, so there are no more of them than the last is large
      have key : ∀ (l : LN) (b : Nat), l.Pairwise (fun x y => x.1 < y.1) → (∀ x ∈ l, b ≤ x.1 ∧ x.1 ≤ 1000000) → b + l.length ≤ 1000001 ∨ l = [] := by
        intro l
        induction l with
        | nil => intro b _ _; exact .inr rfl
        | cons x l ih =>
          intro b hp hb
          left
          obtain ⟨c1, c2⟩ := hb x (List.mem_cons_self ..)
          rcases ih (x.1 + 1) (List.pairwise_cons.1 hp).2 (fun y hy => ⟨(List.pairwise_cons.1 hp).1 y hy, (hb y (List.mem_cons_of_mem _ hy)).2⟩) with q | q
          · simp; omega
          · subst q; simp; omega
      rcases key r 2 hr.inc (fun x hx => by obtain ⟨q1, q2, q3, q4⟩ := hr.ent x hx; exact ⟨q1.1, q4⟩) with q | q
      · omega
      · subst q; simp
end Go.Proofs.YtakimeeakmlemaaQ
