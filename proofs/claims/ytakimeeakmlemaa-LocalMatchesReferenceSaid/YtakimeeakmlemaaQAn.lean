/- LocalAnswers: the plain law. -/
import Derived.Test.YtakimeeakmlemaaQRa
import Derived.Test.YtakimeeakmlemaaX22A
namespace Go.Proofs.YtakimeeakmlemaaQ
set_option linter.unusedVariables false
set_option linter.unusedSimpArgs false
open Go Go.RowKit Go.Proofs.Ytakimeeakmlemaa.P22 Go.Proofs.Ytakimeeakmlemaa.V22 Go.Proofs.YtakimeeakmlemaaW.PrintWords Go.Proofs.YtakimeeakmlemaaW.PrintLast Go.Proofs.YtakimeeakmlemaaW.PrintMore
/-! ### the square of the reference -/
theorem quo_nat {n m : Nat} (hn : n < 9223372036854775808) (hm : 0 < m) : Go.Vx.divF BinOp.quo IntKind.i64 (n : Int) (m : Int) = ((n / m : Nat) : Int) := by
  show IntKind.i64.wrap (Int.tdiv (n : Int) (m : Int)) = _
  rw [Int.tdiv_eq_ediv_of_nonneg (by omega), ← Int.natCast_ediv]
  exact i64n (Nat.lt_of_le_of_lt (Nat.div_le_self n m) hn)
theorem rroot_l0 {n : Nat} (hn : n < 9223372036854775808) : ∀ (f lo hi : Nat), hi - lo ≤ 2 ^ f → lo < hi → hi ≤ 3037000500 → lo * lo ≤ n → n < hi * hi → Ev2 (fun a k => plexusref22_Root.l0 a k (n : Int) (lo : Int) (hi : Int)) (isq n : Int)
  | 0, lo, hi, h1, h2, h3, h4, h5 => by
    have e : hi = lo + 1 := by simp at h1; omega
    subst e
    refine Ev2.step (fun a k => plexusref22_Root.l0_succ a k _ _ _) (ev2F (dF ?_) ?_)
    · rw [show ((lo + 1 : Nat) : Int) - (lo : Int) = ((1 : Nat) : Int) by omega, i64n (by omega)]; decide
    · rw [isq_uniq h4 h5]; exact Ev2.now _
  | f + 1, lo, hi, h1, h2, h3, h4, h5 => by
    by_cases h6 : hi - lo ≤ 1
    · have e : hi = lo + 1 := by omega
      subst e
      refine Ev2.step (fun a k => plexusref22_Root.l0_succ a k _ _ _) (ev2F (dF ?_) ?_)
      · rw [show ((lo + 1 : Nat) : Int) - (lo : Int) = ((1 : Nat) : Int) by omega, i64n (by omega)]; decide
      · rw [isq_uniq h4 h5]; exact Ev2.now _
    · have em : Go.Vx.divF BinOp.quo IntKind.i64 (IntKind.wrap IntKind.i64 ((lo : Int) + (hi : Int))) 2 = (((lo + hi) / 2 : Nat) : Int) := by
        rw [show (lo : Int) + (hi : Int) = ((lo + hi : Nat) : Int) by omega, i64n (by omega)]
        exact quo_nat (m := 2) (by omega) (by decide)
      have hmid : lo < (lo + hi) / 2 ∧ (lo + hi) / 2 < hi := by omega
      have hp : 2 ^ (f + 1) = 2 * 2 ^ f := by rw [Nat.pow_succ]; omega
      refine Ev2.step (fun a k => plexusref22_Root.l0_succ a k _ _ _) (ev2T (dT ?_) ?_)
      · rw [show (hi : Int) - (lo : Int) = ((hi - lo : Nat) : Int) by omega, i64n (by omega)]; omega
      · rw [em]
        have hw : hi - (lo + hi) / 2 ≤ 2 ^ f ∧ (lo + hi) / 2 - lo ≤ 2 ^ f := by omega
        generalize (lo + hi) / 2 = mid at hmid em hw
        rw [quo_nat hn (by omega)]
        refine ev2F (by omega) ?_
        by_cases h7 : mid ≤ n / mid
        · have h8 : mid * mid ≤ n := by rwa [Nat.le_div_iff_mul_le (by omega)] at h7
          have : hi - mid ≤ 2 ^ f := hw.1
          exact ev2T (dT (by omega)) (rroot_l0 hn f mid hi this (by omega) h3 h8 h5)
        · have h8 : n < mid * mid := by
            rw [Nat.le_div_iff_mul_le (by omega)] at h7; omega
          have : mid - lo ≤ 2 ^ f := hw.2
          exact ev2F (dF (by omega)) (rroot_l0 hn f lo mid this (by omega) (by omega) h4 h8)
theorem rroot_e {n : Nat} (hn : n < 9223372036854775808) : Ev (fun k => plexusref22_Root.m k (n : Int)) (isq n : Int) := by
  refine evX (fun k => plexusref22_Root.m_eq k _) ?_
  exact (rroot_l0 hn 32 0 3037000500 (by decide) (by decide) (Nat.le_refl _) (Nat.zero_le _) (by omega)).diag
theorem rsquare_e {n : Int} (h1 : n < 9223372036854775808) : Ev (fun k => plexusref22_Square.m k n) (sqB n) := by
  refine evX (fun k => plexusref22_Square.m_eq k _) ?_
  by_cases h : n ≥ 0
  · obtain ⟨m, rfl⟩ := Int.eq_ofNat_of_zero_le h
    have hr := rroot_e (n := m) (by omega)
    refine evT (dT h) (Ev.bind hr (Ev.bind hr ?_))
    have hs := (isq_spec m).1
    have e : sqB (m : Int) = (IntKind.wrap IntKind.i64 ((isq m : Int) * (isq m : Int)) == (m : Int)) := by
      rw [← Int.natCast_mul, i64n (by omega)]
      unfold sqB
      rw [if_neg (by omega), Int.toNat_natCast]
    rw [e]
    exact Ev.now _
  · rw [sqB_neg (by omega)]
    exact evF (dF h) (Ev.now _)
/-! ### no solution when a place is bad -/
theorem not_sq {a b : Int} (ha : Lt a) (hb : Lt b) (hB : Bad a b) {x y : Nat} (hx : x ≤ 40) (hy : y ≤ 40) (hxy : 0 < x + y) : sqB (nn a b x y) = false := by
  refine Bool.eq_false_iff.2 fun h => ?_
  obtain ⟨q1, q2, q3⟩ := sqB_rt h
  refine never ha hb hB hx hy hxy (z := rt (nn a b x y)) ?_
  rw [q2]
  unfold nn
  rw [Int.mul_assoc, Int.mul_assoc]
theorem none_l3 {a b : Int} (ha : Lt a) (hb : Lt b) (hB : Bad a b) {c : Bool × (Int × Int × Int) × Int} {x : Nat} (hx : x ≤ 40) (hn : Ev2 (fun n k => plexuslaw22_LocalAnswers.l2 n k true a b c ((x + 1 : Nat) : Int)) true) :
    ∀ (m y : Nat), 41 - y = m → y ≤ 41 → Ev3 (fun n3 n2 k => plexuslaw22_LocalAnswers.l3 n3 k n2 true a b c (x : Int) (y : Int)) true
  | 0, y, hm, hy => by
    refine Ev3.step (fun n3 n2 k => plexuslaw22_LocalAnswers.l3_succ n3 k n2 _ _ _ _ _ _) (ev3F (dF (by omega)) ?_)
    rw [show (x : Int) + 1 = ((x + 1 : Nat) : Int) by omega, i64n (by omega)]
    exact Ev3.of hn
  | m + 1, y, hm, hy => by
    have ih := none_l3 ha hb hB hx hn m (y + 1) (by omega) (by omega)
    have e1 : IntKind.wrap IntKind.i64 ((y : Int) + 1) = ((y + 1 : Nat) : Int) := by rw [show (y : Int) + 1 = ((y + 1 : Nat) : Int) by omega, i64n (by omega)]
    refine Ev3.step (fun n3 n2 k => plexuslaw22_LocalAnswers.l3_succ n3 k n2 _ _ _ _ _ _) (ev3T (dT (by omega)) ?_)
    rw [nn_wrap ha hb (by omega) (by omega), e1, ← Int.natCast_add, i64n (by omega)]
    by_cases hxy : 0 < x + y
    · obtain ⟨b1, b2, b3, b4⟩ := nn_bd ha hb (x := x) (y := y) (by omega) (by omega)
      have hN : nn a b x y = a * (x : Int) * (x : Int) + b * (y : Int) * (y : Int) := rfl
      have hs := rsquare_e (n := nn a b x y) (by omega)
      rw [not_sq ha hb hB (by omega) (by omega) hxy] at hs
      exact ev3T (dT (by omega)) (Ev3.bind hs (ev3F (by decide) ih))
    · exact ev3F (dF (by omega)) ih
theorem none_l2 {a b : Int} (ha : Lt a) (hb : Lt b) (hB : Bad a b) {p : Nat} (hp : Pl p) (hm1 : Hm p a b = -1) :
    ∀ (m x : Nat), 41 - x = m → x ≤ 41 → Ev2 (fun n2 k => plexuslaw22_LocalAnswers.l2 n2 k true a b (false, (0, 0, 0), (p : Int)) (x : Int)) true
  | 0, x, hm, hx => by
    have hh := hilbert_e hp ha hb
    rw [hm1] at hh
    refine Ev2.step (fun n2 k => plexuslaw22_LocalAnswers.l2_succ n2 k _ _ _ _ _) (ev2F (dF (by omega)) (Ev2.bind hh (ev2T rfl (ev2T rfl (Ev2.now _)))))
  | m + 1, x, hm, hx => by
    have ih := none_l2 ha hb hB hp hm1 m (x + 1) (by omega) (by omega)
    refine Ev2.step (fun n2 k => plexuslaw22_LocalAnswers.l2_succ n2 k _ _ _ _ _) (ev2T (dT (by omega)) ?_)
    exact (none_l3 ha hb hB (by omega) ih 41 0 rfl (by decide)).diag
theorem hil_any {a b : Int} (ha : Lt a) (hb : Lt b) (q : Int) : ∃ v, Ev (fun k => plexuslaw22_hilbert.m k a b q) v ∧ (v = -1 → ∃ p : Nat, q = p ∧ Rel p a b ∧ Hm p a b = -1) := by
  by_cases h : (HA a b q).2 = 0
  · refine ⟨(HA a b q).1, evX (fun k => plexuslaw22_hilbert.m_eq k _ _ _) (Ev.bind (HilbertA_e ha hb) (evF (nF h) (Ev.now _))), fun hv => ?_⟩
    obtain ⟨p, h1, h2, h3, _⟩ := HA_nrel ha hb hv
    exact ⟨p, h1, h2, h3⟩
  · refine ⟨_, evX (fun k => plexuslaw22_hilbert.m_eq k _ _ _) (Ev.bind (HilbertA_e ha hb) (evT (nT h) (Ev.now _))), fun hv => ?_⟩
    exact absurd hv (by decide)
theorem none_l1 {a b : Int} (ha : Lt a) (hb : Lt b) {p : Nat} (hr : Rel p a b) (hm1 : Hm p a b = -1) (hj : ∀ j < p, Rel j a b → Hm j a b ≠ -1) :
    ∀ (m q : Nat), p - q = m → q ≤ p → Ev2 (fun n1 k => plexuslaw22_LocalAnswers.l1 n1 k true a b (false, (0, 0, 0), (p : Int)) (q : Int)) true
  | 0, q, hm, hq => by
    refine Ev2.step (fun n1 k => plexuslaw22_LocalAnswers.l1_succ n1 k _ _ _ _ _) (ev2F (dF (by show ¬ ((q : Int) < (p : Int)); omega)) ?_)
    exact Ev2.of (none_l2 ha hb ⟨p, hr, hm1⟩ hr.pl hm1 41 0 rfl (by decide)).diag
  | m + 1, q, hm, hq => by
    have ih := none_l1 ha hb hr hm1 hj m (q + 1) (by omega) (by omega)
    have hle := hr.le
    have e1 : IntKind.wrap IntKind.i64 ((q : Int) + 1) = ((q + 1 : Nat) : Int) := by rw [show (q : Int) + 1 = ((q + 1 : Nat) : Int) by omega, i64n (by omega)]
    obtain ⟨v, hv, hn⟩ := hil_any ha hb (q : Int)
    refine Ev2.step (fun n1 k => plexuslaw22_LocalAnswers.l1_succ n1 k _ _ _ _ _) (ev2T (dT (by show (q : Int) < (p : Int); omega)) (Ev2.bind hv (ev2F (bF fun e => ?_) ?_)))
    · obtain ⟨j, h1, h2, h3⟩ := hn e
      have : j = q := by omega
      subst this
      exact hj j (by omega) h2 h3
    · rw [e1]; exact ih
theorem some_l0 {a b : Int} (ha : Lt a) (hb : Lt b) (hj : ∀ j, Rel j a b → Hm j a b ≠ -1) {X Y : Nat} {Z : Int} (hf : Found a b X Y Z) :
    ∀ (m q : Nat), 131 - q = m → q ≤ 131 → Ev2 (fun n k => plexuslaw22_LocalAnswers.l0 n k true a b (true, ((X : Int), (Y : Int), Z), 0) (q : Int)) true
  | 0, q, hm, hq => by
    obtain ⟨f1, f2, f3, ⟨f4, f5⟩, f6⟩ := hf
    have hN : nn a b X Y = a * (X : Int) * (X : Int) + b * (Y : Int) * (Y : Int) := rfl
    refine Ev2.step (fun n k => plexuslaw22_LocalAnswers.l0_succ n k _ _ _ _ _) (ev2F (dF (by omega)) ?_)
    refine ev2T (dT (by show (X : Int) ≥ 0; omega)) (ev2T (dT (by show (X : Int) ≤ 14; omega)) (ev2T (dT (by show (Y : Int) ≥ 0; omega)) (ev2T (dT (by show (Y : Int) ≤ 14; omega)) (ev2T (dT (by show Z ≥ 0; omega)) (ev2T (dT ?_) (ev2T (bT ?_) (ev2T rfl (Ev2.now _))))))))
    · show IntKind.wrap IntKind.i64 (IntKind.wrap IntKind.i64 ((X : Int) + (Y : Int)) + Z) > 0
      rw [wrap_i64', wrap_i64', w64 (x := (X : Int) + (Y : Int)) (by omega) (by omega), w64 (by omega) (by omega)]
      omega
    · show IntKind.wrap IntKind.i64 (Z * Z) = IntKind.wrap IntKind.i64 (IntKind.wrap IntKind.i64 (IntKind.wrap IntKind.i64 (a * (X : Int)) * (X : Int)) + IntKind.wrap IntKind.i64 (IntKind.wrap IntKind.i64 (b * (Y : Int)) * (Y : Int)))
      have hz := mulbd (a := Z) (b := Z) (A := 800) (B := 800) (by omega) (by omega)
      rw [nn_wrap ha hb (by omega) (by omega), wrap_i64', w64 (by omega) (by omega), f6, hN]
  | m + 1, q, hm, hq => by
    have ih := some_l0 ha hb hj hf m (q + 1) (by omega) (by omega)
    have e1 : IntKind.wrap IntKind.i64 ((q : Int) + 1) = ((q + 1 : Nat) : Int) := by rw [show (q : Int) + 1 = ((q + 1 : Nat) : Int) by omega, i64n (by omega)]
    obtain ⟨v, hv, hn⟩ := hil_any ha hb (q : Int)
    refine Ev2.step (fun n k => plexuslaw22_LocalAnswers.l0_succ n k _ _ _ _ _) (ev2T (dT (by omega)) (Ev2.bind hv (ev2F (bF fun e => ?_) ?_)))
    · obtain ⟨j, h1, h2, h3⟩ := hn e
      exact hj j h2 h3
    · rw [e1]; exact ih
theorem answers_of {u v : Int} (hu : -128 ≤ u ∧ u < 128) (hv : -128 ≤ v ∧ v < 128) : Ev (fun k => plexuslaw22_LocalAnswers.m k u v) true := by
  have nu := near_e (x := u) (by omega) (by omega)
  have nv := near_e (x := v) (by omega) (by omega)
  have bu := near_bd (x := u) (m := 128) (by omega) (by omega) (by decide)
  have bv := near_bd (x := v) (m := 128) (by omega) (by omega) (by decide)
  revert nu nv bu bv
  generalize (if u = 0 then (1 : Int) else u) = a
  generalize (if v = 0 then (1 : Int) else v) = b
  intro nu nv bu bv
  have ha : Lt a := ⟨bu.1, by omega, by omega⟩
  have hb : Lt b := ⟨bv.1, by omega, by omega⟩
  obtain ⟨s, es, hs⟩ := solved_e ha hb
  refine evX (fun k => plexuslaw22_LocalAnswers.m_eq k _ _) (Ev.bind examples22 (evF (by decide) (Ev.bind nu (Ev.bind nv (Ev.bind es ?_)))))
  rcases hs.cases ha hb with ⟨p, e, hp, hr, hm, hj⟩ | ⟨hj, X, Y, Z, hf, e⟩
  · subst e
    have c := check_false ha hb (0, 0, 0) (p : Int)
    rw [HA_pl hr.pl, if_pos ⟨rfl, hm⟩] at c
    refine Ev.bind c (evF (by decide) (evF (by simp) ?_))
    exact (none_l1 ha hb hr hm hj p 0 rfl (Nat.zero_le _)).diag
  · subst e
    have c := check_true ha hb (X : Int) (Y : Int) Z 0
    rw [SvB_eq ha hb (by have := hf.hx; omega) (by have := hf.hy; omega) (by have := hf.hz; omega) (by have := hf.hxy; omega), decide_eq_true hf.eq] at c
    refine Ev.bind c (evF (by decide) (evT rfl ?_))
    exact (some_l0 ha hb hj hf 131 0 rfl (by decide)).diag
end Go.Proofs.YtakimeeakmlemaaQ
