/- LocalLegendre: the plain law. -/
import Derived.Test.YtakimeeakmlemaaQL
import Derived.Test.YtakimeeakmlemaaX22L
namespace Go.Proofs.YtakimeeakmlemaaQ
set_option linter.unusedVariables false
set_option linter.unusedSimpArgs false
open Go Go.RowKit Go.Proofs.Ytakimeeakmlemaa.V22 Go.Proofs.YtakimeeakmlemaaW.PrintWords Go.Proofs.YtakimeeakmlemaaW.PrintLast Go.Proofs.YtakimeeakmlemaaW.PrintMore
def smallP : List Nat := [3, 5, 7, 11, 13, 17, 19, 23, 29, 31, 37, 41, 43, 47, 53, 59, 61, 67, 71, 73, 79, 83, 89, 97]
theorem small_odd : ∀ p ∈ smallP, p ∈ oddP := by decide
theorem small_bd : ∀ p ∈ smallP, 3 ≤ p ∧ p < 100 := by decide
def chkM (p : Nat) : Bool := (fun m => ((List.range p).all fun r => (List.range p).all fun s => LvM m (r * s % p) == LvM m r * LvM m s) && ((List.range p).foldl (fun a r => a + LvM m r) 0 == 0)) (sqM p)
theorem chkM_all : smallP.all chkM = true := by kernel_rfl
theorem Lv_mul {p : Nat} (hp : p ∈ smallP) {r s : Nat} (hr : r < p) (hs : s < p) : Lv p (r * s % p) = Lv p r * Lv p s := by
  have h := List.all_eq_true.1 chkM_all p hp
  unfold chkM at h
  rw [Bool.and_eq_true] at h
  have := List.all_eq_true.1 (List.all_eq_true.1 h.1 r (List.mem_range.2 hr)) s (List.mem_range.2 hs)
  exact eq_of_beq this
theorem Lv_sum {p : Nat} (hp : p ∈ smallP) : (List.range p).foldl (fun a r => a + Lv p r) 0 = 0 := by
  have h := List.all_eq_true.1 chkM_all p hp
  unfold chkM at h
  rw [Bool.and_eq_true] at h
  exact eq_of_beq h.2
theorem Lv_vals (p r : Nat) : (Lv p r = 0 ∧ r = 0) ∨ (Lv p r = 1 ∧ r ≠ 0) ∨ (Lv p r = -1 ∧ r ≠ 0) := by
  unfold Lv
  by_cases h : r = 0
  · simp [h]
  · simp only [if_neg h]
    split <;> simp [h]
theorem emod_nat {p : Nat} (hp : 3 ≤ p) (a : Int) : ∃ r : Nat, r < p ∧ a % (p : Int) = r := by
  have := Int.emod_lt_of_pos a (show (0 : Int) < p by omega)
  have := Int.emod_nonneg a (show (p : Int) ≠ 0 by omega)
  exact ⟨(a % (p : Int)).toNat, by omega, by omega⟩
theorem Lg_mul {p : Nat} (hp : p ∈ smallP) (a b : Int) : Lg p (a * b) = Lg p a * Lg p b := by
  obtain ⟨b1, b2⟩ := small_bd p hp
  obtain ⟨r, hr, er⟩ := emod_nat b1 a
  obtain ⟨s, hs, es⟩ := emod_nat b1 b
  unfold Lg
  rw [Int.mul_emod, er, es]
  have e : ((r : Int) * (s : Int)) % (p : Int) = ((r * s % p : Nat) : Int) := by rw [Int.natCast_emod, Int.natCast_mul]
  rw [e]
  simp only [Int.toNat_natCast]
  exact Lv_mul hp hr hs
theorem Lg_add {p : Nat} (a b : Int) : Lg p (a + (p : Int) * b) = Lg p a := by
  unfold Lg
  rw [Int.add_mul_emod_self_left]
theorem Lg_abs (p : Nat) (a : Int) : -1 ≤ Lg p a ∧ Lg p a ≤ 1 := by
  unfold Lg
  rcases Lv_vals p (a % (p : Int)).toNat with h | h | h <;> rw [h.1] <;> decide
def primesL : List Int := [2, 3, 5, 7, 11, 13, 17, 19, 23, 29, 31, 37, 41, 43, 47, 53, 59, 61, 67, 71, 73, 79, 83, 89, 97]
theorem primes_e {n : Int} (h0 : 0 ≤ n) (h1 : n < 256) : ∃ p : Nat, (p = 2 ∨ p ∈ smallP) ∧ Ev (fun k => plexuslaw22_primes.m k n) (p : Int) := by
  obtain ⟨N, rfl⟩ := Int.eq_ofNat_of_zero_le h0
  have e : Go.Vx.divF BinOp.rem IntKind.i64 (IntKind.wrap IntKind.i64 (N : Int)) 25 = ((N % 25 : Nat) : Int) := by
    rw [rem_tmod, wrap_i64', w64 (by omega) (by omega), Int.tmod_eq_emod_of_nonneg (by omega)]; omega
  have hd : ∀ i < 25, ∃ p : Nat, (p = 2 ∨ p ∈ smallP) ∧ List.getD primesL i (Int.ofNat 0) = (p : Int) := by
    intro i hi
    have : ∀ i : Fin 25, ((List.getD primesL i.1 (Int.ofNat 0)).toNat = 2 ∨ (List.getD primesL i.1 (Int.ofNat 0)).toNat ∈ smallP) ∧ 0 ≤ List.getD primesL i.1 (Int.ofNat 0) := by decide
    obtain ⟨h1, h2⟩ := this ⟨i, hi⟩
    exact ⟨_, h1, (Int.toNat_of_nonneg h2).symm⟩
  obtain ⟨p, hp, ep⟩ := hd (N % 25) (Nat.mod_lt _ (by decide))
  refine ⟨p, hp, evX (fun k => plexuslaw22_primes.m_eq k _) ?_⟩
  show Ev (fun k => if 0 ≤ Go.Vx.divF BinOp.rem IntKind.i64 (IntKind.wrap IntKind.i64 (N : Int)) 25 then (if Go.Vx.divF BinOp.rem IntKind.i64 (IntKind.wrap IntKind.i64 (N : Int)) 25 < 25 then some (List.getD primesL (Int.toNat (Go.Vx.divF BinOp.rem IntKind.i64 (IntKind.wrap IntKind.i64 (N : Int)) 25)) (Int.ofNat 0)) else none) else none) (p : Int)
  rw [e, Int.toNat_natCast, ep]
  exact evT (by omega) (evT (by omega) (Ev.now _))
theorem sum_loop {p : Nat} (hp : p ∈ smallP) (a1 : Int) (r41 v : Int) (b : Bool) (hfin : Ev (fun k => Option.bind (plexuslaw22_legendre.m k (IntKind.wrap IntKind.i64 (IntKind.wrap IntKind.i64 a1 * IntKind.wrap IntKind.i64 a1)) (p : Int)) fun (r294 : Int) => (if (r294 == IntKind.wrap IntKind.i64 (r41 * r41)) = true then some true else some (false))) b) :
    ∀ (m i : Nat) (s : Int), p - i = m → i ≤ p → s = (List.range i).foldl (fun a r => a + Lv p r) 0 → -(i : Int) ≤ s → s ≤ i → Ev2 (fun n k => plexuslaw22_LocalLegendre.l0 n k a1 true (p : Int) r41 s (i : Int)) b
  | 0, i, s, hm, hi, hs, h1, h2 => by
    obtain ⟨b1, b2⟩ := small_bd p hp
    have ei : i = p := by omega
    refine Ev2.step (fun n k => plexuslaw22_LocalLegendre.l0_succ n k _ _ _ _ _ _) (ev2F (dF (by omega)) ?_)
    have hz : s = 0 := by rw [hs, ei]; exact Lv_sum hp
    exact ev2T (bT hz) (Ev2.of hfin)
  | m + 1, i, s, hm, hi, hs, h1, h2 => by
    obtain ⟨b1, b2⟩ := small_bd p hp
    refine Ev2.step (fun n k => plexuslaw22_LocalLegendre.l0_succ n k _ _ _ _ _ _) (ev2T (dT (by omega)) ?_)
    have e1 : Lg p (i : Int) = Lv p i := by
      unfold Lg
      rw [Int.emod_eq_of_lt (by omega) (by omega), Int.toNat_natCast]
    have hb := Lg_abs p (i : Int)
    refine Ev2.bind (legendre_e (small_odd p hp) (i : Int)) ?_
    rw [e1] at hb ⊢
    rw [wrap_i64', wrap_i64', w64 (by omega) (by omega), w64 (by omega) (by omega), show (i : Int) + 1 = ((i + 1 : Nat) : Int) by omega]
    refine sum_loop hp a1 r41 v b hfin m (i + 1) _ (by omega) (by omega) ?_ (by omega) (by omega)
    rw [hs, List.range_succ, List.foldl_append]; rfl
theorem legendre_of {n a b : Int} (hn : 0 ≤ n ∧ n < 256) (ha : -32768 ≤ a ∧ a < 32768) (hb : -32768 ≤ b ∧ b < 32768) : Ev (fun k => plexuslaw22_LocalLegendre.m k n a b) true := by
  obtain ⟨p, hp, ep⟩ := primes_e hn.1 hn.2
  refine evX (fun k => plexuslaw22_LocalLegendre.m_eq k _ _ _) (Ev.bind examples22 (evF (by decide) (Ev.bind ep ?_)))
  have wa : IntKind.wrap IntKind.i64 a = a := by rw [wrap_i64', w64 (by omega) (by omega)]
  have wb : IntKind.wrap IntKind.i64 b = b := by rw [wrap_i64', w64 (by omega) (by omega)]
  rcases hp with rfl | hp
  · refine evT (bT rfl) (Ev.bind (a := (0, 1)) ?_ (evT (bT rfl) (Ev.now _)))
    exact evX (fun k => local_Legendre.m_eq k _ _) (evT (dT (by decide)) (Ev.now _))
  · obtain ⟨b1, b2⟩ := small_bd p hp
    have ho := small_odd p hp
    have bab : -1073741824 ≤ a * b ∧ a * b ≤ 1073741824 := by
      have h1 := Int.natAbs_mul a b
      have h2 : a.natAbs ≤ 32768 := by omega
      have h3 : b.natAbs ≤ 32768 := by omega
      have h4 := Nat.mul_le_mul h2 h3
      omega
    have baa : -1073741824 ≤ a * a ∧ a * a ≤ 1073741824 := by
      have h1 := Int.natAbs_mul a a
      have h2 : a.natAbs ≤ 32768 := by omega
      have h4 := Nat.mul_le_mul h2 h2
      omega
    have bpb : -3276800 ≤ (p : Int) * b ∧ (p : Int) * b ≤ 3276800 := by
      have h1 := Int.natAbs_mul (p : Int) b
      have h2 : (p : Int).natAbs ≤ 100 := by omega
      have h3 : b.natAbs ≤ 32768 := by omega
      have h4 := Nat.mul_le_mul h2 h3
      omega
    have la := Lg_abs p a
    have lb := Lg_abs p b
    rw [wa, wb]
    have e1 : IntKind.wrap IntKind.i64 (a * b) = a * b := by rw [wrap_i64', w64 (by omega) (by omega)]
    have e2 : IntKind.wrap IntKind.i64 (a + IntKind.wrap IntKind.i64 ((p : Int) * b)) = a + (p : Int) * b := by rw [wrap_i64', wrap_i64', w64 (x := (p : Int) * b) (by omega) (by omega), w64 (by omega) (by omega)]
    rw [e1, e2]
    refine evF (bF (by omega)) (Ev.bind (legendre_e ho a) (Ev.bind (legendre_e ho b) (Ev.bind (legendre_e ho (a * b)) (evF (nF ?_) (Ev.bind (legendre_e ho _) (evF (nF (Lg_add a b)) (evF (by omega) ?_)))))))
    · rw [Lg_mul hp, wrap_i64']
      have : Lg p a * Lg p b = -1 ∨ Lg p a * Lg p b = 0 ∨ Lg p a * Lg p b = 1 := by
        have h1 : Lg p a = -1 ∨ Lg p a = 0 ∨ Lg p a = 1 := by omega
        have h2 : Lg p b = -1 ∨ Lg p b = 0 ∨ Lg p b = 1 := by omega
        rcases h1 with h | h | h <;> rcases h2 with g | g | g <;> rw [h, g] <;> decide
      rw [w64 (by omega) (by omega)]
    have ez : (Lg p a == 0) = (Go.Vx.divF BinOp.rem IntKind.i64 a (p : Int) == 0) := by
      rw [rem_tmod, Bool.eq_iff_iff, beq_iff_eq, beq_iff_eq]
      obtain ⟨r, hr, er⟩ := emod_nat b1 a
      have h1 : Int.tmod a (p : Int) = 0 ↔ a % (p : Int) = 0 := by rw [← Int.dvd_iff_tmod_eq_zero, ← Int.dvd_iff_emod_eq_zero]
      rw [h1]
      unfold Lg
      rw [er, Int.toNat_natCast]
      rcases Lv_vals p r with h | h | h
      · rw [h.1, h.2]; simp
      · rw [h.1]; constructor
        · intro q; omega
        · intro q; omega
      · rw [h.1]; constructor
        · intro q; omega
        · intro q; omega
    have hneq : ¬ ((!(Lg p a == 0) == (Go.Vx.divF BinOp.rem IntKind.i64 a (p : Int) == 0)) = true) := by
      rw [← ez]; cases (Lg p a == 0) <;> decide
    refine evF hneq (evF (dF (by omega)) (evF (dF (by omega)) ?_))
    refine (sum_loop hp a (Lg p a) 0 true ?_ _ 1 0 rfl (by omega) ?_ (by omega) (by omega)).diag
    · rw [wa]
      have e3 : IntKind.wrap IntKind.i64 (a * a) = a * a := by rw [wrap_i64', w64 (by omega) (by omega)]
      rw [e3]
      refine Ev.bind (legendre_e ho (a * a)) (evT (bT ?_) (Ev.now _))
      rw [Lg_mul hp, wrap_i64']
      have : Lg p a * Lg p a = 0 ∨ Lg p a * Lg p a = 1 := by
        have h1 : Lg p a = -1 ∨ Lg p a = 0 ∨ Lg p a = 1 := by omega
        rcases h1 with h | h | h <;> rw [h] <;> decide
      rw [w64 (by omega) (by omega)]
    · rfl
end Go.Proofs.YtakimeeakmlemaaQ
