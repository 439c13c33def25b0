/- LocalMatchesReference: the Legendre symbols of both, up to a thousand. -/
import Derived.Test.YtokaigninenjhaaQAn
namespace Go.Proofs.YtokaigninenjhaaQ
set_option linter.unusedVariables false
set_option linter.unusedSimpArgs false
open Go Go.RowKit Go.Proofs.Ytokaigninenjhaa.P22 Go.Proofs.Ytokaigninenjhaa.V22 Go.Proofs.YtokaigninenjhaaW.PrintWords Go.Proofs.YtokaigninenjhaaW.PrintLast Go.Proofs.YtokaigninenjhaaW.PrintMore
theorem i64s {n : Nat} (h : n < 9223372036854775807) : IntKind.wrap IntKind.i64 ((n : Int) + 1) = ((n + 1 : Nat) : Int) := by
  rw [show (n : Int) + 1 = ((n + 1 : Nat) : Int) by omega, i64n (by omega)]
/-! ### the table of squares says what it says -/
theorem testBit_one_shl (i r : Nat) : (1 <<< i).testBit r = decide (i = r) := by
  rw [Nat.one_shiftLeft, Nat.testBit_two_pow]
theorem sq_fold (p r : Nat) : ∀ (l : List Nat) (m : Nat), (l.foldl (fun m x => m ||| (if x = 0 then 0 else 1 <<< (x * x % p))) m).testBit r = true ↔ m.testBit r = true ∨ ∃ x ∈ l, x ≠ 0 ∧ x * x % p = r
  | [], m => by simp
  | x :: l, m => by
    rw [List.foldl_cons, sq_fold p r l]
    by_cases h : x = 0
    · subst h; simp
    · rw [if_neg h, Nat.testBit_or, Bool.or_eq_true, testBit_one_shl, decide_eq_true_iff]
      constructor
      · rintro ((q | q) | ⟨y, h1, h2, h3⟩)
        · exact .inl q
        · exact .inr ⟨x, List.mem_cons_self .., h, q⟩
        · exact .inr ⟨y, List.mem_cons_of_mem _ h1, h2, h3⟩
      · rintro (q | ⟨y, h1, h2, h3⟩)
        · exact .inl (.inl q)
        · rcases List.mem_cons.1 h1 with e | e
          · subst e; exact .inl (.inr h3)
          · exact .inr ⟨y, e, h2, h3⟩
theorem sqM_iff {p r : Nat} : (sqM p).testBit r = true ↔ ∃ x, x < p ∧ x ≠ 0 ∧ x * x % p = r := by
  unfold sqM
  rw [sq_fold]
  simp [List.mem_range]
/-! ### powers up to a thousand -/
theorem chkE_low : ((List.range 501).all fun q => decide (q < 3) || !trb q || chkE q) = true := by kernel_rfl
theorem chkE_mid : ((List.range 300).all fun q => !trb (q + 501) || chkE (q + 501)) = true := by kernel_rfl
theorem chkE_high : ((List.range 200).all fun q => !trb (q + 801) || chkE (q + 801)) = true := by kernel_rfl
theorem chkE_any {p : Nat} (h3 : 3 ≤ p) (hp : p ≤ 1000) (ht : trb p = true) : chkE p = true := by
  by_cases h1 : p ≤ 500
  · have := List.all_eq_true.1 chkE_low p (List.mem_range.2 (by omega))
    rw [ht, decide_eq_false (by omega)] at this
    simpa using this
  · by_cases h2 : p ≤ 800
    · have := List.all_eq_true.1 chkE_mid (p - 501) (List.mem_range.2 (by omega))
      rw [show p - 501 + 501 = p by omega, ht] at this
      simpa using this
    · have := List.all_eq_true.1 chkE_high (p - 801) (List.mem_range.2 (by omega))
      rw [show p - 801 + 801 = p by omega, ht] at this
      simpa using this
theorem Lv_powB {p r : Nat} (h3 : 3 ≤ p) (hp : p ≤ 1000) (ht : trb p = true) (hr : r < p) : (r = 0 ∧ r ^ ((p - 1) / 2) % p = 0 ∧ Lv p r = 0) ∨ (r ≠ 0 ∧ r ^ ((p - 1) / 2) % p = 1 ∧ Lv p r = 1) ∨ (r ≠ 0 ∧ r ^ ((p - 1) / 2) % p = p - 1 ∧ Lv p r = -1) := by
  have h := chkE_any h3 hp ht
  unfold chkE at h
  have h2 := eq_of_beq (List.all_eq_true.1 h r (List.mem_range.2 hr))
  rw [h2]
  unfold Lv
  by_cases h0 : r = 0
  · simp [h0]
  · by_cases h1 : (sqM p).testBit r = true
    · simp [h0, h1]
    · simp [h0, h1]
/-! ### the loop of the program -/
theorem rem_nat {n m : Nat} : Go.Vx.divF BinOp.rem IntKind.i64 (n : Int) (m : Int) = ((n % m : Nat) : Int) := by
  rw [rem_tmod, Int.tmod_eq_emod_of_nonneg (by omega), ← Int.natCast_emod]
theorem leg_pow {p : Nat} (h3 : 3 ≤ p) (hp : p ≤ 1000) : ∀ (f a b e : Nat), e < 2 ^ f → e ≤ 1000 → a < p → b < p → Ev2 (fun n k => local_Legendre.l0 n k (p : Int) (a : Int) (b : Int) (e : Int)) (if a * b ^ e % p = p - 1 then (-1, 0) else (((a * b ^ e % p : Nat) : Int), 0))
  | 0, a, b, e, he, hL, ha, hb => by
    have e0 : e = 0 := by simp at he; exact he
    subst e0
    have ea : a * b ^ 0 % p = a := by rw [Nat.pow_zero, Nat.mul_one]; exact Nat.mod_eq_of_lt ha
    rw [ea]
    refine Ev2.step (fun n k => local_Legendre.l0_succ n k _ _ _ _) (ev2F (dF (by decide)) ?_)
    rw [show IntKind.wrap IntKind.i64 ((p : Int) - 1) = ((p - 1 : Nat) : Int) by rw [show (p : Int) - 1 = ((p - 1 : Nat) : Int) by omega, i64n (by omega)]]
    by_cases h : a = p - 1
    · rw [if_pos h]; exact ev2T (bT (by omega)) (Ev2.now _)
    · rw [if_neg h]; exact ev2F (bF (by omega)) (Ev2.now _)
  | f + 1, a, b, e, he, hL, ha, hb => by
    by_cases e0 : e = 0
    · subst e0
      have ea : a * b ^ 0 % p = a := by rw [Nat.pow_zero, Nat.mul_one]; exact Nat.mod_eq_of_lt ha
      rw [ea]
      refine Ev2.step (fun n k => local_Legendre.l0_succ n k _ _ _ _) (ev2F (dF (by decide)) ?_)
      rw [show IntKind.wrap IntKind.i64 ((p : Int) - 1) = ((p - 1 : Nat) : Int) by rw [show (p : Int) - 1 = ((p - 1 : Nat) : Int) by omega, i64n (by omega)]]
      by_cases h : a = p - 1
      · rw [if_pos h]; exact ev2T (bT (by omega)) (Ev2.now _)
      · rw [if_neg h]; exact ev2F (bF (by omega)) (Ev2.now _)
    · have hab := Nat.mul_le_mul (show a ≤ 1000 by omega) (show b ≤ 1000 by omega)
      have hbb := Nat.mul_le_mul (show b ≤ 1000 by omega) (show b ≤ 1000 by omega)
      have he2 : e / 2 < 2 ^ f := by rw [Nat.pow_succ] at he; omega
      have hb2 : b * b % p < p := Nat.mod_lt _ (by omega)
      have eb : Go.Vx.divF BinOp.rem IntKind.i64 (IntKind.wrap IntKind.i64 ((b : Int) * (b : Int))) (p : Int) = ((b * b % p : Nat) : Int) := by
        rw [← Int.natCast_mul, i64n (by omega), rem_nat]
      have ea : Go.Vx.divF BinOp.rem IntKind.i64 (IntKind.wrap IntKind.i64 ((a : Int) * (b : Int))) (p : Int) = ((a * b % p : Nat) : Int) := by
        rw [← Int.natCast_mul, i64n (by omega), rem_nat]
      have eh : Go.Vx.divF BinOp.quo IntKind.i64 (e : Int) 2 = ((e / 2 : Nat) : Int) := quo_nat (m := 2) (by omega) (by decide)
      have eo : (Go.Vx.divF BinOp.rem IntKind.i64 (e : Int) 2 == 1) = decide (e % 2 = 1) := odd_beq e
      have mm : ∀ x : Nat, x % p * (b * b % p) ^ (e / 2) % p = x * (b * b) ^ (e / 2) % p := fun x => by
        rw [Nat.mul_mod, Nat.mod_mod, ← Nat.pow_mod, ← Nat.mul_mod]
      have ep : b ^ (2 * (e / 2)) = (b * b) ^ (e / 2) := by rw [Nat.pow_mul, Nat.pow_two]
      refine Ev2.step (fun n k => local_Legendre.l0_succ n k _ _ _ _) (ev2T (dT (by omega)) ?_)
      rw [ea, eb, eh]
      by_cases ho : e % 2 = 1
      · have ih := leg_pow h3 hp f (a * b % p) (b * b % p) (e / 2) he2 (by omega) (Nat.mod_lt _ (by omega)) hb2
        have e1 : a * b ^ e % p = a * b % p * (b * b % p) ^ (e / 2) % p := by
          rw [mm]
          have : b ^ e = (b * b) ^ (e / 2) * b := by
            rw [← ep, ← Nat.pow_succ]; congr 1; omega
          rw [this, Nat.mul_comm ((b * b) ^ _) b, Nat.mul_assoc]
        rw [e1]
        exact ev2T (by rw [eo, decide_eq_true ho]) (ev2F (by omega) (ev2F (by omega) ih))
      · have ih := leg_pow h3 hp f a (b * b % p) (e / 2) he2 (by omega) ha hb2
        have e1 : a * b ^ e % p = a * (b * b % p) ^ (e / 2) % p := by
          have h4 := mm a
          rw [Nat.mod_eq_of_lt ha] at h4
          rw [h4]
          have : b ^ e = (b * b) ^ (e / 2) := by
            rw [← ep]; congr 1; omega
          rw [this]
        rw [e1]
        exact ev2F (by rw [eo, decide_eq_false ho]; decide) (ev2F (by omega) ih)
theorem rmod_e {a p : Int} (hp : 0 < p) (h2 : p ≤ 1000) : Ev (fun k => plexusref22_Mod.m k a p) (a % p) := by
  refine evX (fun k => plexusref22_Mod.m_eq k _ _) (evF (by omega) (evF (by omega) ?_))
  have e : Go.Vx.divF BinOp.rem IntKind.i64 (IntKind.wrap IntKind.i64 (Go.Vx.divF BinOp.rem IntKind.i64 a p + p)) p = a % p := by
    rw [rem_tmod, rem_tmod, wrap_i64']
    have h3 : -p < Int.tmod a p ∧ Int.tmod a p < p := ⟨Int.lt_tmod_of_pos a hp, Int.tmod_lt_of_pos a hp⟩
    rw [w64 (by omega) (by omega), Int.tmod_eq_emod_of_nonneg (by omega), Int.add_emod_right]
    have := Int.mul_tdiv_add_tmod a p
    have e2 : Int.tmod a p = a - p * Int.tdiv a p := by omega
    rw [e2, Int.sub_emod, Int.mul_emod_right]
    simp
  rw [e]
  exact Ev.now _
/-- The Legendre symbol that the program reckons, at every prime up to a thousand. -/
theorem leg_e {p : Nat} (h3 : 3 ≤ p) (hp : p ≤ 1000) (ht : trb p = true) (a : Int) : Ev (fun k => local_Legendre.m k a (p : Int)) (Lg p a, 0) := by
  have hpr := (primes_any (q := (p : Int)) (by omega)).1
  have hpB : pB (p : Int) = true := by unfold pB; rw [decide_eq_true (by omega), Bool.true_and, Int.toNat_natCast]; exact ht
  rw [hpB] at hpr
  obtain ⟨r, hr, er⟩ := emod_nat h3 a
  have hmod := mod_e (a := a) (p := (p : Int)) (by omega) (by omega)
  rw [er] at hmod
  have ed : Go.Vx.divF BinOp.quo IntKind.i64 (IntKind.wrap IntKind.i64 ((p : Int) - 1)) 2 = (((p - 1) / 2 : Nat) : Int) := by
    rw [show (p : Int) - 1 = ((p - 1 : Nat) : Int) by omega, i64n (by omega)]
    exact quo_nat (m := 2) (by omega) (by decide)
  refine evX (fun k => local_Legendre.m_eq k _ _) (evF (dF (by omega)) (evF (dF (by omega)) (Ev.bind hpr (evF (by decide) (Ev.bind hmod ?_)))))
  rw [ed]
  have h := (leg_pow h3 hp 10 1 r ((p - 1) / 2) (Nat.lt_of_le_of_lt (show (p - 1) / 2 ≤ 500 by omega) (by decide)) (by omega) (by omega) hr).diag
  have eL : Lg p a = Lv p r := by unfold Lg; rw [er, Int.toNat_natCast]
  rw [Nat.one_mul] at h
  rw [eL]
  rcases Lv_powB h3 hp ht hr with ⟨q1, q2, q3⟩ | ⟨q1, q2, q3⟩ | ⟨q1, q2, q3⟩
  · rw [q2, if_neg (by omega)] at h
    rw [q3]; exact h
  · rw [q2, if_neg (by omega)] at h
    rw [q3]; exact h
  · rw [q2, if_pos rfl] at h
    rw [q3]; exact h
open Classical in
theorem rleg_l0 {p r : Nat} (h3 : 3 ≤ p) (hp : p ≤ 1000) {a : Int} (hr : a % (p : Int) = (r : Int)) : ∀ (m v : Nat), p - v = m → v ≤ p → Ev2 (fun n k => plexusref22_Legendre.l0 n k a (p : Int) (v : Int)) (if ∃ x, v ≤ x ∧ x < p ∧ x * x % p = r then (1, 0) else (-1, 0))
  | 0, v, hm, hv => by
    rw [if_neg (by rintro ⟨x, h1, h2, _⟩; omega)]
    exact Ev2.step (fun n k => plexusref22_Legendre.l0_succ n k _ _ _) (ev2F (dF (by omega)) (Ev2.now _))
  | m + 1, v, hm, hv => by
    have ih := rleg_l0 h3 hp hr m (v + 1) (by omega) (by omega)
    have hmod := rmod_e (a := a) (p := (p : Int)) (by omega) (by omega)
    rw [hr] at hmod
    have hvv := Nat.mul_le_mul (show v ≤ 1000 by omega) (show v ≤ 1000 by omega)
    refine Ev2.step (fun n k => plexusref22_Legendre.l0_succ n k _ _ _) (ev2T (dT (by omega)) (ev2F (by omega) (Ev2.bind hmod ?_)))
    rw [← Int.natCast_mul, i64n (by omega), rem_nat, i64s (by omega)]
    by_cases hx : v * v % p = r
    · rw [if_pos ⟨v, Nat.le_refl _, by omega, hx⟩]
      exact ev2T (bT (by omega)) (Ev2.now _)
    · refine ev2F (bF (by omega)) ?_
      have e : (∃ x, v ≤ x ∧ x < p ∧ x * x % p = r) ↔ (∃ x, v + 1 ≤ x ∧ x < p ∧ x * x % p = r) := by
        constructor
        · rintro ⟨x, h1, h2, h3⟩
          refine ⟨x, ?_, h2, h3⟩
          rcases Nat.lt_or_ge v x with q | q
          · exact q
          · exfalso
            have : x = v := by omega
            subst this
            exact hx h3
        · rintro ⟨x, h1, h2, h3⟩; exact ⟨x, by omega, h2, h3⟩
      have e2 : (if ∃ x, v ≤ x ∧ x < p ∧ x * x % p = r then ((1 : Int), (0 : Int)) else (-1, 0)) = (if ∃ x, v + 1 ≤ x ∧ x < p ∧ x * x % p = r then (1, 0) else (-1, 0)) := by
        by_cases q : ∃ x, v ≤ x ∧ x < p ∧ x * x % p = r
        · rw [if_pos q, if_pos (e.1 q)]
        · rw [if_neg q, if_neg (fun z => q (e.2 z))]
      rw [e2]; exact ih
open Classical in
theorem rleg_e {p : Nat} (h3 : 3 ≤ p) (hp : p ≤ 1000) (ht : trb p = true) (a : Int) : Ev (fun k => plexusref22_Legendre.m k a (p : Int)) (Lg p a, 0) := by
  have hpr := (primes_any (q := (p : Int)) (by omega)).2
  have hpB : pB (p : Int) = true := by unfold pB; rw [decide_eq_true (by omega), Bool.true_and, Int.toNat_natCast]; exact ht
  rw [hpB] at hpr
  obtain ⟨r, hr, er⟩ := emod_nat h3 a
  have hmod := rmod_e (a := a) (p := (p : Int)) (by omega) (by omega)
  rw [er] at hmod
  have eL : Lg p a = Lv p r := by unfold Lg; rw [er, Int.toNat_natCast]
  rw [eL]
  refine evX (fun k => plexusref22_Legendre.m_eq k _ _) (evF (dF (by omega)) (evF (dF (by omega)) (Ev.bind hpr (evF (by decide) (Ev.bind hmod ?_)))))
  by_cases h0 : r = 0
  · subst h0
    refine evT rfl ?_
    exact Ev.now _
  · refine evF (bF (by omega)) ?_
    have h := (rleg_l0 h3 hp er _ 1 rfl (by omega)).diag
    have e : Lv p r = if ∃ x, 1 ≤ x ∧ x < p ∧ x * x % p = r then 1 else -1 := by
      unfold Lv
      rw [if_neg h0]
      have hi : (sqM p).testBit r = true ↔ ∃ x, 1 ≤ x ∧ x < p ∧ x * x % p = r := by
        rw [sqM_iff]
        constructor
        · rintro ⟨x, h1, h2, h3⟩; exact ⟨x, by omega, h1, h3⟩
        · rintro ⟨x, h1, h2, h3⟩; exact ⟨x, h2, by omega, h3⟩
      by_cases q : (sqM p).testBit r = true
      · rw [if_pos q, if_pos (hi.1 q)]
      · rw [if_neg q, if_neg (fun z => q (hi.2 z))]
    rw [e]
    by_cases q : ∃ x, 1 ≤ x ∧ x < p ∧ x * x % p = r
    · rw [if_pos q] at h ⊢; exact h
    · rw [if_neg q] at h ⊢; exact h
theorem leg_both (a q : Int) : ∃ v, Ev (fun k => local_Legendre.m k a q) v ∧ Ev (fun k => plexusref22_Legendre.m k a q) v := by
  by_cases h1 : q < 3
  · exact ⟨(0, 1), evX (fun k => local_Legendre.m_eq k _ _) (evT (dT h1) (Ev.now _)), evX (fun k => plexusref22_Legendre.m_eq k _ _) (evT (dT h1) (Ev.now _))⟩
  · by_cases h2 : q > 1000
    · exact ⟨(0, 1), evX (fun k => local_Legendre.m_eq k _ _) (evF (dF h1) (evT (dT h2) (Ev.now _))), evX (fun k => plexusref22_Legendre.m_eq k _ _) (evF (dF h1) (evT (dT h2) (Ev.now _)))⟩
    · obtain ⟨p, rfl⟩ := Int.eq_ofNat_of_zero_le (show 0 ≤ q by omega)
      by_cases ht : trb p = true
      · exact ⟨_, leg_e (by omega) (by omega) ht a, rleg_e (by omega) (by omega) ht a⟩
      · obtain ⟨p1, p2⟩ := primes_any (q := (p : Int)) (by omega)
        have hpB : pB (p : Int) = false := by unfold pB; rw [Int.toNat_natCast, show trb p = false from by simpa using ht, Bool.and_false]
        rw [hpB] at p1 p2
        exact ⟨(0, 1), evX (fun k => local_Legendre.m_eq k _ _) (evF (dF h1) (evF (dF h2) (Ev.bind p1 (evT rfl (Ev.now _))))), evX (fun k => plexusref22_Legendre.m_eq k _ _) (evF (dF h1) (evF (dF h2) (Ev.bind p2 (evT rfl (Ev.now _)))))⟩
end Go.Proofs.YtokaigninenjhaaQ
