/- LocalAnswers: the plain law. -/
import Derived.Test.YtokaigninenjhaaQRa
import Derived.Test.YtokaigninenjhaaX22R
namespace Go.Proofs.YtokaigninenjhaaQ
set_option linter.unusedVariables false
set_option linter.unusedSimpArgs false
open Go Go.RowKit Go.Proofs.Ytokaigninenjhaa.P22 Go.Proofs.Ytokaigninenjhaa.V22 Go.Proofs.YtokaigninenjhaaW.PrintWords Go.Proofs.YtokaigninenjhaaW.PrintLast Go.Proofs.YtokaigninenjhaaW.PrintMore
/-! ### the square of the reference -/
theorem quo_nat {n m : Nat} (hn : n < 9223372036854775808) (hm : 0 < m) : Go.Vx.divF BinOp.quo IntKind.i64 (n : Int) (m : Int) = ((n / m : Nat) : Int) := by
  show IntKind.i64.wrap (Int.tdiv (n : Int) (m : Int)) = _
  rw [Int.tdiv_eq_ediv_of_nonneg (by omega), ← Int.natCast_ediv]
  exact i64n (Nat.lt_of_le_of_lt (Nat.div_le_self n m) hn)
theorem rroot_l0 {n : Nat} (hn : n < 9223372036854775808) : ∀ (f lo hi : Nat), hi - lo ≤ 2 ^ f → lo < hi → hi ≤ 3037000500 → lo * lo ≤ n → n < hi * hi → Ev2 (fun a k => plexusref22_Root.l0 a k (n : Int) (lo : Int) (hi : Int)) (isq n : Int)
  | 0, lo, hi, h1, h2, h3, h4, h5 => by
    have e : hi = lo + 1 := by simp at h1; omega
    subst e
    refine Ev2.step (fun a k => plexusref22_Root.l0_succ a k _ _ _) (ev2F (dF ?_) ?_)
    · rw [show ((lo + 1 : Nat) : Int) - (lo : Int) = ((1 : Nat) : Int) by omega, i64n (by omega)]; decide
    · rw [isq_uniq h4 h5]; exact Ev2.now _
  | f + 1, lo, hi, h1, h2, h3, h4, h5 => by
    by_cases h6 : hi - lo ≤ 1
    · have e : hi = lo + 1 := by omega
      subst e
      refine Ev2.step (fun a k => plexusref22_Root.l0_succ a k _ _ _) (ev2F (dF ?_) ?_)
      · rw [show ((lo + 1 : Nat) : Int) - (lo : Int) = ((1 : Nat) : Int) by omega, i64n (by omega)]; decide
      · rw [isq_uniq h4 h5]; exact Ev2.now _
    · have em : Go.Vx.divF BinOp.quo IntKind.i64 (IntKind.wrap IntKind.i64 ((lo : Int) + (hi : Int))) 2 = (((lo + hi) / 2 : Nat) : Int) := by
        rw [show (lo : Int) + (hi : Int) = ((lo + hi : Nat) : Int) by omega, i64n (by omega)]
        exact quo_nat (m := 2) (by omega) (by decide)
      have hmid : lo < (lo + hi) / 2 ∧ (lo + hi) / 2 < hi := by omega
      have hp : 2 ^ (f + 1) = 2 * 2 ^ f := by rw [Nat.pow_succ]; omega
      refine Ev2.step (fun a k => plexusref22_Root.l0_succ a k _ _ _) (ev2T (dT ?_) ?_)
      · rw [show (hi : Int) - (lo : Int) = ((hi - lo : Nat) : Int) by omega, i64n (by omega)]; omega
      · rw [em]
        have hw : hi - (lo + hi) / 2 ≤ 2 ^ f ∧ (lo + hi) / 2 - lo ≤ 2 ^ f := by omega
        generalize (lo + hi) / 2 = mid at hmid em hw
        rw [quo_nat hn (by omega)]
        refine ev2F (by omega) ?_
        by_cases h7 : mid ≤ n / mid
        · have h8 : mid * mid ≤ n := by rwa [Nat.le_div_iff_mul_le (by omega)] at h7
          have : hi - mid ≤ 2 ^ f := hw.1
          exact ev2T (dT (by omega)) (rroot_l0 hn f mid hi this (by omega) h3 h8 h5)
        · have h8 : n < mid * mid := by
            rw [Nat.le_div_iff_mul_le (by omega)] at h7; omega
          have : mid - lo ≤ 2 ^ f := hw.2
          exact ev2F (dF (by omega)) (rroot_l0 hn f lo mid this (by omega) (by omega) h4 h8)
theorem rroot_e {n : Nat} (hn : n < 9223372036854775808) : Ev (fun k => plexusref22_Root.m k (n : Int)) (isq n : Int) := by
  refine evX (fun k => plexusref22_Root.m_eq k _) ?_
  exact (rroot_l0 hn 32 0 3037000500 (by decide) (by decide) (Nat.le_refl _) (Nat.zero_le _) (by omega)).diag
theorem rsquare_e {n : Int} (h1 : n < 9223372036854775808) : Ev (fun k => plexusref22_Square.m k n) (sqB n) := by
  refine evX (fun k => plexusref22_Square.m_eq k _) ?_
  by_cases h : n ≥ 0
  · obtain ⟨m, rfl⟩ := Int.eq_ofNat_of_zero_le h
    have hr := rroot_e (n := m) (by omega)
    refine evT (dT h) (Ev.bind hr (Ev.bind hr ?_))
    have hs := (isq_spec m).1
    have e : sqB (m : Int) = (IntKind.wrap IntKind.i64 ((isq m : Int) * (isq m : Int)) == (m : Int)) := by
      rw [← Int.natCast_mul, i64n (by omega)]
      unfold sqB
      rw [if_neg (by omega), Int.toNat_natCast]
    rw [e]
    exact Ev.now _
  · rw [sqB_neg (by omega)]
    exact evF (dF h) (Ev.now _)
/-! ### no solution when a place is bad -/
theorem not_sq {a b : Int} (ha : Lt a) (hb : Lt b) (hB : Bad a b) {x y : Nat} (hx : x ≤ 40) (hy : y ≤ 40) (hxy : 0 < x + y) : sqB (nn a b x y) = false := by
  refine Bool.eq_false_iff.2 fun h => ?_
  obtain ⟨q1, q2, q3⟩ := sqB_rt h
  refine never ha hb hB hx hy hxy (z := rt (nn a b x y)) ?_
  rw [q2]
  unfold nn
  rw [Int.mul_assoc, Int.mul_assoc]
end Go.Proofs.YtokaigninenjhaaQ
