/- Local: Hilbert symbols as the program reckons them. -/
import Derived.Test.YtokaigninenjhaaQFa
import Derived.Test.YtokaigninenjhaaQLe
namespace Go.Proofs.YtokaigninenjhaaQ
set_option linter.unusedVariables false
set_option linter.unusedSimpArgs false
open Go Go.RowKit Go.Proofs.Ytokaigninenjhaa.P22 Go.Proofs.Ytokaigninenjhaa.V22 Go.Proofs.YtokaigninenjhaaW.PrintWords Go.Proofs.YtokaigninenjhaaW.PrintLast Go.Proofs.YtokaigninenjhaaW.PrintMore
/-! ### valuations -/
def vlF (p : Int) : Nat → Int → Nat × Int
  | 0, a => (0, a)
  | n + 1, a => if a % p = 0 then ((vlF p n (a / p)).1 + 1, (vlF p n (a / p)).2) else (0, a)
def vl (p : Nat) (a : Int) : Nat × Int := vlF p 20 a
theorem half_abs {p : Nat} (hp : 2 ≤ p) {c : Int} (hc : (p : Int) * c ≠ 0) : c ≠ 0 ∧ c.natAbs * 2 ≤ ((p : Int) * c).natAbs := by
  refine ⟨fun q => by rw [q] at hc; simp at hc, ?_⟩
  rw [Int.natAbs_mul, Int.natAbs_natCast, Nat.mul_comm]
  exact Nat.mul_le_mul_right _ hp
theorem vlF_spec {p : Nat} (hp : 2 ≤ p) : ∀ (n : Nat) (a : Int), a ≠ 0 → a.natAbs < 2 ^ n → a = (p : Int) ^ (vlF p n a).1 * (vlF p n a).2 ∧ (vlF p n a).2 % (p : Int) ≠ 0
  | 0, a, h0, h1 => by omega
  | n + 1, a, h0, h1 => by
    unfold vlF
    by_cases h : a % (p : Int) = 0
    · rw [if_pos h]
      obtain ⟨c, rfl⟩ := Int.dvd_of_emod_eq_zero h
      rw [Int.mul_ediv_cancel_left _ (show (p : Int) ≠ 0 by omega)]
      obtain ⟨h2, h3⟩ := half_abs hp h0
      rw [Nat.pow_succ] at h1
      obtain ⟨e1, e2⟩ := vlF_spec hp n c h2 (by omega)
      refine ⟨?_, e2⟩
      show (p : Int) * c = (p : Int) ^ ((vlF p n c).1 + 1) * (vlF p n c).2
      rw [Int.pow_succ, Int.mul_comm ((p : Int) ^ _) (p : Int), Int.mul_assoc, ← e1]
    · rw [if_neg h]
      exact ⟨by simp, h⟩
theorem pow_uniq {p : Nat} (hp : 2 ≤ p) : ∀ (i j : Nat) (u v : Int), (p : Int) ^ i * u = (p : Int) ^ j * v → u % (p : Int) ≠ 0 → v % (p : Int) ≠ 0 → i = j ∧ u = v
  | 0, 0, u, v, h, _, _ => by simpa using h
  | 0, j + 1, u, v, h, hu, hv => by
    exfalso
    apply hu
    have : u = (p : Int) * ((p : Int) ^ j * v) := by
      rw [Int.pow_succ] at h
      have h' : u = (p : Int) ^ j * (p : Int) * v := by simpa using h
      rw [h', Int.mul_comm ((p : Int) ^ j) (p : Int), Int.mul_assoc]
    rw [this]; exact Int.mul_emod_right _ _
  | i + 1, 0, u, v, h, hu, hv => by
    obtain ⟨e1, e2⟩ := pow_uniq hp 0 (i + 1) v u h.symm hv hu
    omega
  | i + 1, j + 1, u, v, h, hu, hv => by
    have h2 : (p : Int) * ((p : Int) ^ i * u) = (p : Int) * ((p : Int) ^ j * v) := by
      rw [Int.pow_succ, Int.pow_succ, Int.mul_comm ((p : Int) ^ i) (p : Int), Int.mul_comm ((p : Int) ^ j) (p : Int), Int.mul_assoc, Int.mul_assoc] at h
      exact h
    have h3 := Int.eq_of_mul_eq_mul_left (show (p : Int) ≠ 0 by omega) h2
    obtain ⟨e1, e2⟩ := pow_uniq hp i j u v h3 hu hv
    exact ⟨by omega, e2⟩
/-- Numbers whose valuations are read off. -/
def Sm (a : Int) : Prop := a ≠ 0 ∧ a.natAbs < 2 ^ 20
theorem vl_spec {p : Nat} (hp : 2 ≤ p) {a : Int} (ha : Sm a) : a = (p : Int) ^ (vl p a).1 * (vl p a).2 ∧ (vl p a).2 % (p : Int) ≠ 0 := vlF_spec hp 20 a ha.1 ha.2
theorem vl_uniq {p : Nat} (hp : 2 ≤ p) {a u : Int} {i : Nat} (ha : Sm a) (h : a = (p : Int) ^ i * u) (hu : u % (p : Int) ≠ 0) : vl p a = (i, u) := by
  obtain ⟨e1, e2⟩ := vl_spec hp ha
  obtain ⟨q1, q2⟩ := pow_uniq hp _ _ _ _ (e1.symm.trans h) e2 hu
  exact Prod.ext q1 q2
theorem prime_emod {p : Nat} (hp : Pr p) {u v : Int} (hu : u % (p : Int) ≠ 0) (hv : v % (p : Int) ≠ 0) : (u * v) % (p : Int) ≠ 0 := by
  intro h
  have h1 : (p : Int) ∣ u * v := Int.dvd_of_emod_eq_zero h
  have h2 : p ∣ u.natAbs * v.natAbs := by rw [← Int.natAbs_mul]; exact Int.ofNat_dvd_left.1 h1
  rcases hp.dvd_mul h2 with h3 | h3
  · exact hu (Int.emod_eq_zero_of_dvd (Int.ofNat_dvd_left.2 h3))
  · exact hv (Int.emod_eq_zero_of_dvd (Int.ofNat_dvd_left.2 h3))
theorem vl_mul {p : Nat} (hp : Pr p) {a b : Int} (ha : Sm a) (hb : Sm b) (hab : Sm (a * b)) : vl p (a * b) = ((vl p a).1 + (vl p b).1, (vl p a).2 * (vl p b).2) := by
  obtain ⟨e1, e2⟩ := vl_spec hp.1 ha
  obtain ⟨e3, e4⟩ := vl_spec hp.1 hb
  refine vl_uniq hp.1 hab ?_ (prime_emod hp e2 e4)
  calc a * b = ((p : Int) ^ (vl p a).1 * (vl p a).2) * ((p : Int) ^ (vl p b).1 * (vl p b).2) := by rw [← e1, ← e3]
    _ = _ := by rw [Int.pow_add]; simp only [Int.mul_assoc, Int.mul_left_comm]
theorem valZ_l0 {p : Nat} (hp : 2 ≤ p) (hp2 : p ≤ 1000) : ∀ (n : Nat) (a : Int) (i : Nat), a ≠ 0 → a.natAbs < 2 ^ n → n + i ≤ 100 → n ≤ 20 → Ev2 (fun m k => local_valuation.l0 m k (p : Int) a (i : Int)) (((i + (vlF p n a).1 : Nat) : Int), (vlF p n a).2)
  | 0, a, i, h0, h1, _, _ => by omega
  | n + 1, a, i, h0, h1, hi, hn => by
    have hb : a.natAbs < 2 ^ 20 := Nat.lt_of_lt_of_le h1 (Nat.pow_le_pow_right (by decide) hn)
    have p20 : (2 : Nat) ^ 20 = 1048576 := by decide
    unfold vlF
    have et : (Go.Vx.divF BinOp.rem IntKind.i64 a (p : Int) == 0) = decide (a % (p : Int) = 0) := by
      rw [rem_tmod, Bool.eq_iff_iff, beq_iff_eq, decide_eq_true_iff, ← Int.dvd_iff_tmod_eq_zero, ← Int.dvd_iff_emod_eq_zero]
    by_cases h : a % (p : Int) = 0
    · rw [if_pos h]
      have hd := Int.dvd_of_emod_eq_zero h
      have eq1 : Go.Vx.divF BinOp.quo IntKind.i64 a (p : Int) = a / (p : Int) := by
        show IntKind.i64.wrap (Int.tdiv a (p : Int)) = _
        have h5 : Int.tdiv a (p : Int) = a / (p : Int) := Int.tdiv_eq_ediv_of_dvd hd
        rw [h5, show IntKind.i64.wrap (a / (p : Int)) = wrap64 (a / (p : Int)) from wrap_i64' _]
        obtain ⟨c, rfl⟩ := hd
        rw [Int.mul_ediv_cancel_left _ (show (p : Int) ≠ 0 by omega)]
        obtain ⟨h2, h3⟩ := half_abs hp h0
        exact w64 (by omega) (by omega)
      obtain ⟨c, rfl⟩ := hd
      rw [Int.mul_ediv_cancel_left _ (show (p : Int) ≠ 0 by omega)] at eq1 ⊢
      obtain ⟨h2, h3⟩ := half_abs hp h0
      rw [Nat.pow_succ] at h1
      have ih := valZ_l0 hp hp2 n c (i + 1) h2 (by omega) (by omega) (by omega)
      refine Ev2.step (fun m k => local_valuation.l0_succ m k _ _ _) (ev2F (by omega) (ev2T (by rw [et]; exact decide_eq_true h) (ev2F (by omega) ?_)))
      rw [eq1, show (i : Int) + 1 = ((i + 1 : Nat) : Int) by omega, i64n (by omega)]
      rw [show i + 1 + (vlF (p : Int) n c).1 = i + ((vlF (p : Int) n c).1 + 1) by omega] at ih
      exact ih
    · rw [if_neg h]
      exact Ev2.step (fun m k => local_valuation.l0_succ m k _ _ _) (ev2F (by omega) (ev2F (by rw [et]; simp [h]) (Ev2.now _)))
theorem valZ_e {p : Nat} (hp : 2 ≤ p) (hp2 : p ≤ 1000) {a : Int} (ha : Sm a) : Ev (fun k => local_valuation.m k a (p : Int)) (((vl p a).1 : Int), (vl p a).2) := by
  refine evX (fun k => local_valuation.m_eq k _ _) ?_
  have := (valZ_l0 hp hp2 20 a 0 ha.1 ha.2 (by omega) (Nat.le_refl _)).diag
  rw [Nat.zero_add] at this
  exact this
/-! ### symbols -/
def wv (n : Int) : Int := if n % 8 = 3 ∨ n % 8 = 5 then -1 else 1
def ho (p i : Nat) (u : Int) (k : Nat) (v : Int) : Int := (if p % 4 = 3 ∧ i % 2 = 1 ∧ k % 2 = 1 then -1 else 1) * (if k % 2 = 1 then Lg p u else 1) * (if i % 2 = 1 then Lg p v else 1)
def h2 (i : Nat) (u : Int) (k : Nat) (v : Int) : Int := (if u % 4 = 3 ∧ v % 4 = 3 then -1 else 1) * (if i % 2 = 1 then wv v else 1) * (if k % 2 = 1 then wv u else 1)
def Hm (p : Nat) (a b : Int) : Int := if p = 0 then (if a < 0 ∧ b < 0 then -1 else 1) else if p = 2 then h2 (vl 2 a).1 (vl 2 a).2 (vl 2 b).1 (vl 2 b).2 else ho p (vl p a).1 (vl p a).2 (vl p b).1 (vl p b).2
theorem sign_e (b : Bool) : Ev (fun k => local_sign.m k b) (if b = true then -1 else 1) := by
  refine evX (fun k => local_sign.m_eq k _) ?_
  cases b with
  | true => exact evT rfl (Ev.now _)
  | false => exact evF (by decide) (Ev.now _)
theorem small_e {a : Int} (h0 : a ≠ 0) (h1 : -200 ≤ a) (h2 : a ≤ 200) : Ev (fun k => local_small.m k a) true := by
  refine evX (fun k => local_small.m_eq k _) (evT (nT h0) (evT (dT h1) ?_))
  rw [decide_eq_true h2]; exact Ev.now _
theorem modN_e (a : Int) {n : Nat} (h : 0 < n) (h2 : n ≤ 1000) : Ev (fun k => local_mod.m k a (n : Int)) (a % (n : Int)) := mod_e (by omega) (by omega)
theorem H1_e (n : Int) : Ev (fun k => local_Hilbert_1.m k n) (decide (n % 8 = 3 ∨ n % 8 = 5)) := by
  have hm : Ev (fun k => local_mod.m k n 8) (n % 8) := modN_e n (n := 8) (by decide) (by decide)
  refine evX (fun k => local_Hilbert_1.m_eq k _) (Ev.bind hm ?_)
  by_cases h : n % 8 = 3
  · rw [decide_eq_true (Or.inl h)]
    exact evT (bT h) (Ev.now _)
  · refine evF (bF h) (Ev.bind hm ?_)
    have : decide (n % 8 = 3 ∨ n % 8 = 5) = (n % 8 == 5) := by
      rw [Bool.eq_iff_iff, decide_eq_true_iff, beq_iff_eq]
      exact ⟨fun q => q.resolve_left h, .inr⟩
    rw [this]; exact Ev.now _
theorem odd_beq (i : Nat) : (Go.Vx.divF BinOp.rem IntKind.i64 (i : Int) 2 == 1) = decide (i % 2 = 1) := by
  rw [rem_tmod, Int.tmod_eq_emod_of_nonneg (by omega), Bool.eq_iff_iff, beq_iff_eq, decide_eq_true_iff]; omega
theorem Lg_pm (p : Nat) (a : Int) : Lg p a = -1 ∨ Lg p a = 0 ∨ Lg p a = 1 := by
  unfold Lg
  rcases Lv_vals p (a % (p : Int)).toNat with h | h | h <;> rw [h.1] <;> simp
theorem w1 {x : Int} (h : x = -1 ∨ x = 0 ∨ x = 1) : IntKind.wrap IntKind.i64 x = x := by rcases h with h | h | h <;> rw [h] <;> decide
theorem pm_mul {x y : Int} (h : x = -1 ∨ x = 0 ∨ x = 1) (g : y = -1 ∨ y = 0 ∨ y = 1) : x * y = -1 ∨ x * y = 0 ∨ x * y = 1 := by
  rcases h with h | h | h <;> rcases g with g | g | g <;> rw [h, g] <;> decide
theorem wv_pm (n : Int) : wv n = -1 ∨ wv n = 0 ∨ wv n = 1 := by unfold wv; split <;> simp
theorem if_pm {c : Prop} [Decidable c] {x : Int} (h : x = -1 ∨ x = 0 ∨ x = 1) : (if c then x else 1) = -1 ∨ (if c then x else 1) = 0 ∨ (if c then x else 1) = 1 := by split <;> simp_all
theorem s_pm {c : Prop} [Decidable c] : (if c then (-1 : Int) else 1) = -1 ∨ (if c then (-1 : Int) else 1) = 0 ∨ (if c then (-1 : Int) else 1) = 1 := by split <;> simp
theorem ho_e {p : Nat} (hp : p ∈ oddP) (a b : Int) (i k : Nat) (u v s : Int) (hs : s = -1 ∨ s = 0 ∨ s = 1) : Ev (fun f => local_Hilbert.j1 f (p : Int) ((i : Int), u) ((k : Int), v) s) (s * (if k % 2 = 1 then Lg p u else 1) * (if i % 2 = 1 then Lg p v else 1), 0) := by
  have j2 : ∀ s : Int, (s = -1 ∨ s = 0 ∨ s = 1) → Ev (fun f => local_Hilbert.j2 f (p : Int) ((i : Int), u) ((k : Int), v) s) (s * (if i % 2 = 1 then Lg p v else 1), 0) := fun s hs => by
    refine evX (fun f => local_Hilbert.j2_eq f _ _ _ _) ?_
    by_cases h : i % 2 = 1
    · rw [if_pos h]
      refine evT (by show (Go.Vx.divF BinOp.rem IntKind.i64 (i : Int) 2 == 1) = true; rw [odd_beq, decide_eq_true h]) (Ev.bind (Legendre_e hp v) ?_)
      show Ev (fun f => some (IntKind.wrap IntKind.i64 (s * Lg p v), (0 : Int))) _
      rw [w1 (pm_mul hs (Lg_pm p v))]
      exact Ev.now _
    · rw [if_neg h, Int.mul_one]
      exact evF (by show ¬ (Go.Vx.divF BinOp.rem IntKind.i64 (i : Int) 2 == 1) = true; rw [odd_beq, decide_eq_false h]; decide) (Ev.now _)
  refine evX (fun f => local_Hilbert.j1_eq f _ _ _ _) ?_
  by_cases h : k % 2 = 1
  · rw [if_pos h]
    refine evT (by show (Go.Vx.divF BinOp.rem IntKind.i64 (k : Int) 2 == 1) = true; rw [odd_beq, decide_eq_true h]) (Ev.bind (Legendre_e hp u) ?_)
    show Ev (fun f => local_Hilbert.j2 f (p : Int) ((i : Int), u) ((k : Int), v) (IntKind.wrap IntKind.i64 (s * Lg p u))) _
    rw [w1 (pm_mul hs (Lg_pm p u))]
    exact j2 _ (pm_mul hs (Lg_pm p u))
  · rw [if_neg h, Int.mul_one]
    exact evF (by show ¬ (Go.Vx.divF BinOp.rem IntKind.i64 (k : Int) 2 == 1) = true; rw [odd_beq, decide_eq_false h]; decide) (j2 s hs)
theorem h2_e (i k : Nat) (u v s : Int) (hs : s = -1 ∨ s = 0 ∨ s = 1) : Ev (fun f => local_Hilbert.j3 f ((i : Int), u) ((k : Int), v) s) (s * (if i % 2 = 1 then wv v else 1) * (if k % 2 = 1 then wv u else 1), 0) := by
  have sg : ∀ n : Int, Ev (fun f => local_sign.m f (decide (n % 8 = 3 ∨ n % 8 = 5))) (wv n) := fun n => by
    have := sign_e (decide (n % 8 = 3 ∨ n % 8 = 5))
    unfold wv
    simpa using this
  have j4 : ∀ s : Int, (s = -1 ∨ s = 0 ∨ s = 1) → Ev (fun f => local_Hilbert.j4 f ((i : Int), u) ((k : Int), v) s) (s * (if k % 2 = 1 then wv u else 1), 0) := fun s hs => by
    refine evX (fun f => local_Hilbert.j4_eq f _ _ _) ?_
    by_cases h : k % 2 = 1
    · rw [if_pos h]
      refine evT (by show (Go.Vx.divF BinOp.rem IntKind.i64 (k : Int) 2 == 1) = true; rw [odd_beq, decide_eq_true h]) (Ev.bind (H1_e u) (Ev.bind (sg u) ?_))
      rw [w1 (pm_mul hs (wv_pm u))]
      exact Ev.now _
    · rw [if_neg h, Int.mul_one]
      exact evF (by show ¬ (Go.Vx.divF BinOp.rem IntKind.i64 (k : Int) 2 == 1) = true; rw [odd_beq, decide_eq_false h]; decide) (Ev.now _)
  refine evX (fun f => local_Hilbert.j3_eq f _ _ _) ?_
  by_cases h : i % 2 = 1
  · rw [if_pos h]
    refine evT (by show (Go.Vx.divF BinOp.rem IntKind.i64 (i : Int) 2 == 1) = true; rw [odd_beq, decide_eq_true h]) (Ev.bind (H1_e v) (Ev.bind (sg v) ?_))
    rw [w1 (pm_mul hs (wv_pm v))]
    exact j4 _ (pm_mul hs (wv_pm v))
  · rw [if_neg h, Int.mul_one]
    exact evF (by show ¬ (Go.Vx.divF BinOp.rem IntKind.i64 (i : Int) 2 == 1) = true; rw [odd_beq, decide_eq_false h]; decide) (j4 s hs)
/-- A number that is small for the program. -/
def Lt (a : Int) : Prop := a ≠ 0 ∧ -200 ≤ a ∧ a ≤ 200
theorem Lt.sm {a : Int} (h : Lt a) : Sm a := ⟨h.1, by
  have p20 : (2 : Nat) ^ 20 = 1048576 := by decide
  have := h.2.1; have := h.2.2; omega⟩
theorem Hilbert_j0 {p : Nat} (hp : p = 0 ∨ p = 2 ∨ p ∈ oddP) {a b : Int} (ha : Lt a) (hb : Lt b) : Ev (fun k => local_Hilbert.j0 k a b (p : Int)) (Hm p a b, 0) := by
  refine evX (fun k => local_Hilbert.j0_eq k _ _ _) ?_
  rcases hp with rfl | rfl | hp
  · refine evT rfl ?_
    unfold Hm
    rw [if_pos rfl]
    by_cases h : a < 0
    · refine evT (dT h) (Ev.bind (sign_e _) ?_)
      by_cases g : b < 0
      · simp [g, h]; exact Ev.now _
      · simp [g, h]; exact Ev.now _
    · refine evF (dF h) (Ev.bind (sign_e _) ?_)
      simp [h]; exact Ev.now _
  · refine evF (by decide) (Ev.bind (valZ_e (p := 2) (by decide) (by decide) ha.sm) (Ev.bind (valZ_e (p := 2) (by decide) (by decide) hb.sm) (evF (by decide) ?_)))
    unfold Hm
    rw [if_neg (by decide), if_pos rfl]
    generalize (vl 2 a).1 = i
    generalize (vl 2 a).2 = u
    generalize (vl 2 b).1 = j
    generalize (vl 2 b).2 = v
    have mu : Ev (fun k => local_mod.m k u 4) (u % 4) := modN_e u (n := 4) (by decide) (by decide)
    have mv : Ev (fun k => local_mod.m k v 4) (v % 4) := modN_e v (n := 4) (by decide) (by decide)
    refine Ev.bind mu ?_
    unfold h2
    by_cases h : u % 4 = 3
    · refine evT (bT h) (Ev.bind mv (Ev.bind (sign_e _) ?_))
      have e : (if (v % 4 == 3) = true then (-1 : Int) else 1) = if u % 4 = 3 ∧ v % 4 = 3 then -1 else 1 := by simp [h]
      rw [e]
      exact h2_e i j u v _ s_pm
    · refine evF (bF h) (Ev.bind (sign_e _) ?_)
      have e : (if (false = true) then (-1 : Int) else 1) = if u % 4 = 3 ∧ v % 4 = 3 then -1 else 1 := by simp [h]
      rw [e]
      exact h2_e i j u v _ s_pm
  · obtain ⟨b1, b2, b3⟩ := oddP_bd p hp
    refine evF (bF (by omega)) (Ev.bind (valZ_e (by omega) (by omega) ha.sm) (Ev.bind (valZ_e (by omega) (by omega) hb.sm) (evT (dT (by omega)) ?_)))
    unfold Hm
    rw [if_neg (by omega), if_neg (by omega)]
    generalize (vl p a).1 = i
    generalize (vl p a).2 = u
    generalize (vl p b).1 = j
    generalize (vl p b).2 = v
    have e4 : (Go.Vx.divF BinOp.rem IntKind.i64 (p : Int) 4 == 3) = decide (p % 4 = 3) := by
      rw [rem_tmod, Int.tmod_eq_emod_of_nonneg (by omega), Bool.eq_iff_iff, beq_iff_eq, decide_eq_true_iff]; omega
    unfold ho
    have nf : (if (false = true) then (-1 : Int) else 1) = 1 := by simp
    by_cases h4 : p % 4 = 3
    · refine evT (by rw [e4, decide_eq_true h4]) ?_
      by_cases hi : i % 2 = 1
      · refine evT (by show (Go.Vx.divF BinOp.rem IntKind.i64 (i : Int) 2 == 1) = true; rw [odd_beq, decide_eq_true hi]) (Ev.bind (sign_e _) ?_)
        have e : (if ((Go.Vx.divF BinOp.rem IntKind.i64 (j : Int) 2 == 1) = true) then (-1 : Int) else 1) = if p % 4 = 3 ∧ i % 2 = 1 ∧ j % 2 = 1 then -1 else 1 := by rw [odd_beq]; simp [h4, hi]
        rw [e]
        exact ho_e hp a b i j u v _ s_pm
      · refine evF (by show ¬ (Go.Vx.divF BinOp.rem IntKind.i64 (i : Int) 2 == 1) = true; rw [odd_beq, decide_eq_false hi]; decide) (Ev.bind (sign_e _) ?_)
        have e : (if (false = true) then (-1 : Int) else 1) = if p % 4 = 3 ∧ i % 2 = 1 ∧ j % 2 = 1 then -1 else 1 := by simp [hi]
        rw [e]
        exact ho_e hp a b i j u v _ s_pm
    · refine evF (by rw [e4, decide_eq_false h4]; decide) (Ev.bind (sign_e _) ?_)
      have e : (if (false = true) then (-1 : Int) else 1) = if p % 4 = 3 ∧ i % 2 = 1 ∧ j % 2 = 1 then -1 else 1 := by simp [h4]
      rw [e]
      exact ho_e hp a b i j u v _ s_pm
theorem prime2_e : Ev (fun k => local_prime.m k 2) true := by
  rw [local_prime.m_c]
  exact ⟨20, fun k hk => prime_more 20 2 2 true (by kernel_rfl) k k hk⟩
theorem Hilbert_e {p : Nat} (hp : p = 0 ∨ p = 2 ∨ p ∈ oddP) {a b : Int} (ha : Lt a) (hb : Lt b) : Ev (fun k => local_Hilbert.m k a b (p : Int)) (Hm p a b, 0) := by
  refine evX (fun k => local_Hilbert.m_eq k _ _ _) (Ev.bind (small_e ha.1 ha.2.1 ha.2.2) (evF (by decide) (Ev.bind (small_e hb.1 hb.2.1 hb.2.2) (evF (by decide) ?_))))
  have hj := Hilbert_j0 hp ha hb
  rcases hp with rfl | rfl | hp
  · exact evF (nF rfl) hj
  · exact evT (nT (by decide)) (evF (dF (by decide)) (Ev.bind prime2_e (evF (by decide) hj)))
  · obtain ⟨b1, b2, b3⟩ := oddP_bd p hp
    exact evT (nT (by omega)) (evF (dF (by omega)) (Ev.bind (prime_e hp) (evF (by decide) hj)))
end Go.Proofs.YtokaigninenjhaaQ
