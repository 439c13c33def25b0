/- Local: an equation that is solved has every symbol one. -/
import Derived.Test.YtokaigninenjhaaQHb
namespace Go.Proofs.YtokaigninenjhaaQ
set_option linter.unusedVariables false
set_option linter.unusedSimpArgs false
open Go Go.RowKit Go.Proofs.Ytokaigninenjhaa.P22 Go.Proofs.Ytokaigninenjhaa.V22 Go.Proofs.YtokaigninenjhaaW.PrintWords Go.Proofs.YtokaigninenjhaaW.PrintLast Go.Proofs.YtokaigninenjhaaW.PrintMore
/-- A square that is a prime power times a unit. -/
theorem sq_unit {p : Nat} (hp : Pr p) {C w : Int} {i : Nat} (h : C * C = (p : Int) ^ i * w) (hw : w % (p : Int) ≠ 0) : i % 2 = 0 ∧ ∃ s : Nat, w = (s : Int) * s := by
  have hp0 : 0 < (p : Int) := by have := hp.1; omega
  have hpi : 0 < (p : Int) ^ i := Int.pow_pos hp0
  have hw0 : 0 ≤ w := by
    rcases Int.lt_or_le w 0 with h1 | h1
    · have := Int.mul_neg_of_pos_of_neg hpi h1
      have h2 : 0 ≤ C * C := by
        rw [← Int.natAbs_mul_self]; omega
      omega
    · exact h1
  have e : p ^ i * w.toNat = C.natAbs * C.natAbs := by
    have h1 : ((p ^ i * w.toNat : Nat) : Int) = ((C.natAbs * C.natAbs : Nat) : Int) := by
      rw [Int.natAbs_mul_self, h, Int.natCast_mul, Int.natCast_pow, Int.toNat_of_nonneg hw0]
    exact Int.natCast_inj.1 h1
  have hd : ¬ p ∣ w.toNat := by
    intro q
    apply hw
    have : (p : Int) ∣ (w.toNat : Int) := Int.natCast_dvd_natCast.2 q
    rw [Int.toNat_of_nonneg hw0] at this
    exact Int.emod_eq_zero_of_dvd this
  obtain ⟨h1, s, hs⟩ := Sq_even hp i w.toNat C.natAbs e hd
  refine ⟨h1, s, ?_⟩
  rw [← Int.natCast_mul, hs]; omega
theorem pow_split {p i k : Nat} (h : i < k) : (p : Int) ^ k = (p : Int) ^ i * ((p : Int) * (p : Int) ^ (k - i - 1)) := by
  rw [← Int.pow_succ', ← Int.pow_add, show i + (k - i - 1 + 1) = k by omega]
theorem add_emod_mul (u p m : Int) : (u + p * m) % p = u % p := Int.add_mul_emod_self_left u p m
theorem Lg_emod {p : Nat} {u v : Int} (h : u % (p : Int) = v % (p : Int)) : Lg p u = Lg p v := by unfold Lg; rw [h]
theorem Lg_m1 : ∀ p ∈ oddP, Lg p (-1) = if p % 4 = 3 then -1 else 1 := by
  have : oddP.all (fun p => Lg p (-1) == if p % 4 = 3 then -1 else 1) = true := by kernel_rfl
  intro p hp
  exact eq_of_beq (List.all_eq_true.1 this p hp)
theorem pow_odd {p i : Nat} (h : i % 2 = 1) (x : Int) : (p : Int) ^ i * ((p : Int) * x) = (p : Int) ^ (i + 1) * x := by
  rw [Int.pow_succ, Int.mul_assoc]
/-- Half of the odd case. -/
theorem ho_lt {p : Nat} (hp : p ∈ oddP) {i k : Nat} {u v C : Int} (hu : u % (p : Int) ≠ 0) (hik : i < k) (h : (p : Int) ^ i * u + (p : Int) ^ k * v = C * C) : ho p i u k v = 1 := by
  rw [pow_split hik, Int.mul_assoc, ← Int.mul_add] at h
  have hw : (u + (p : Int) * (p : Int) ^ (k - i - 1) * v) % (p : Int) = u % (p : Int) := by
    rw [Int.mul_assoc]; exact add_emod_mul _ _ _
  obtain ⟨h1, s, hs⟩ := sq_unit (pr_of hp) h.symm (by rw [hw]; exact hu)
  have hL : Lg p u = 1 := by
    have e : Lg p u = Lg p s * Lg p s := by
      rw [← Lg_mulO hp, ← hs]
      exact (Lg_emod hw).symm
    have hs0 : (s : Int) % (p : Int) ≠ 0 := by
      intro q
      apply hu
      rw [← hw, hs, Int.mul_emod, q]; rfl
    rw [e]; exact pm_sq (Lg_unit hp hs0)
  unfold ho
  rw [hL]
  simp [show ¬ i % 2 = 1 by omega]
theorem ho_one {p : Nat} (hp : p ∈ oddP) {i k : Nat} {u v C : Int} (hu : u % (p : Int) ≠ 0) (hv : v % (p : Int) ≠ 0) (h : (p : Int) ^ i * u + (p : Int) ^ k * v = C * C) : ho p i u k v = 1 := by
  obtain ⟨b1, b2, b3⟩ := oddP_bd p hp
  rcases Nat.lt_trichotomy i k with hik | hik | hik
  · exact ho_lt hp hu hik h
  · subst hik
    by_cases hi : i % 2 = 1
    · rw [← Int.mul_add] at h
      have hz : (u + v) % (p : Int) = 0 := by
        refine Decidable.byContradiction fun q => ?_
        have := (sq_unit (pr_of hp) h.symm q).1
        omega
      have hv2 : v % (p : Int) = (-1 * u) % (p : Int) := by
        have : (v - (-1 * u)) % (p : Int) = 0 := by rw [show v - (-1 * u) = u + v by omega]; exact hz
        exact Int.emod_eq_emod_iff_emod_sub_eq_zero.2 this
      have hL := pm_sq (Lg_unit hp hu)
      unfold ho
      rw [Lg_emod hv2, Lg_mulO hp, Lg_m1 p hp]
      by_cases h4 : p % 4 = 3
      · simp only [h4, hi, if_pos, true_and, and_self]
        generalize Lg p u = L at hL
        rw [show (-1 : Int) * L * (-1 * L) = L * L by rw [Int.mul_assoc, Int.mul_left_comm L (-1) L, ← Int.mul_assoc]; simp]
        exact hL
      · simp only [h4, hi, if_pos, if_false, false_and, Int.one_mul]
        exact hL
    · unfold ho; simp [hi]
  · rw [ho_symm]
    exact ho_lt hp hv hik (by rw [Int.add_comm]; exact h)
theorem sq8 (s : Nat) : (s * s) % 8 = 1 ∨ (s * s) % 2 = 0 := by
  have : s % 8 < 8 := Nat.mod_lt _ (by decide)
  have e : (s * s) % 8 = (s % 8) * (s % 8) % 8 := Nat.mul_mod s s 8
  have k : ∀ r < 8, (r * r % 8 = 1 ∨ r * r % 8 % 2 = 0) := by decide
  have := k _ this
  omega
theorem sq_odd8 {w : Int} {s : Nat} (h : w = (s : Int) * s) (hw : w % 2 ≠ 0) : w % 8 = 1 := by
  rw [← Int.natCast_mul] at h
  have := sq8 s
  omega
theorem h2_lt {i k : Nat} {u v C : Int} (hu : u % ((2 : Nat) : Int) ≠ 0) (hv : v % ((2 : Nat) : Int) ≠ 0) (hik : i < k) (h : ((2 : Nat) : Int) ^ i * u + ((2 : Nat) : Int) ^ k * v = C * C) : h2 i u k v = 1 := by
  rw [pow_split hik, Int.mul_assoc, ← Int.mul_add] at h
  have hw : (u + ((2 : Nat) : Int) * ((2 : Nat) : Int) ^ (k - i - 1) * v) % ((2 : Nat) : Int) = u % ((2 : Nat) : Int) := by
    rw [Int.mul_assoc]; exact add_emod_mul _ _ _
  obtain ⟨h1, s, hs⟩ := sq_unit pr2 h.symm (by rw [hw]; exact hu)
  have h8 := sq_odd8 hs (by
    have : ((2 : Nat) : Int) = 2 := rfl
    rw [this] at hw hu ⊢
    omega)
  have ni : ¬ i % 2 = 1 := by omega
  rcases Nat.lt_or_ge (k - i) 3 with hd | hd
  · have hd' : k - i - 1 = 0 ∨ k - i - 1 = 1 := by omega
    rcases hd' with hd' | hd'
    · rw [hd'] at h8
      have hk : k % 2 = 1 := by omega
      have h9 : (u + 2 * v) % 8 = 1 := by simpa using h8
      unfold h2 wv
      simp only [ni, hk, if_pos, if_false, Int.mul_one]
      split <;> split <;> first | rfl | (exfalso; omega)
    · rw [hd'] at h8
      have hk : ¬ k % 2 = 1 := by omega
      have h9 : (u + 4 * v) % 8 = 1 := by simpa using h8
      unfold h2
      simp only [ni, hk, if_false, Int.mul_one]
      split
      · exfalso; omega
      · rfl
  · obtain ⟨d, hd'⟩ : ∃ d, k - i - 1 = d + 2 := ⟨k - i - 3, by omega⟩
    rw [hd', Int.pow_add] at h8
    have h9 : u % 8 = 1 := by
      have e : ((2 : Nat) : Int) * (((2 : Nat) : Int) ^ d * ((2 : Nat) : Int) ^ 2) * v = 8 * (((2 : Nat) : Int) ^ d * v) := by
        have : ((2 : Nat) : Int) ^ 2 = 4 := rfl
        rw [this]
        have : ((2 : Nat) : Int) = 2 := rfl
        rw [this]
        generalize (2 : Int) ^ d = D
        rw [show (2 : Int) * (D * 4) = 8 * D by omega, Int.mul_assoc]
      rw [e] at h8
      omega
    have n1 : ¬ (u % 4 = 3 ∧ v % 4 = 3) := by omega
    have n2 : ¬ (u % 8 = 3 ∨ u % 8 = 5) := by omega
    unfold h2 wv
    simp only [ni, n1, n2, if_false, Int.mul_one, Int.one_mul]
    simp
theorem h2_one {i k : Nat} {u v C : Int} (hu : u % ((2 : Nat) : Int) ≠ 0) (hv : v % ((2 : Nat) : Int) ≠ 0) (h : ((2 : Nat) : Int) ^ i * u + ((2 : Nat) : Int) ^ k * v = C * C) : h2 i u k v = 1 := by
  rcases Nat.lt_trichotomy i k with hik | hik | hik
  · exact h2_lt hu hv hik h
  · subst hik
    rw [← Int.mul_add] at h
    have e2 : ((2 : Nat) : Int) = 2 := rfl
    rw [e2] at hu hv
    obtain ⟨t, ht⟩ : ∃ t, u + v = 2 * t := ⟨(u + v) / 2, by omega⟩
    have h' : C * C = ((2 : Nat) : Int) ^ (i + 1) * t := by
      rw [← h, ht, Int.pow_succ, Int.mul_assoc]; rfl
    by_cases tz : t % 2 = 0
    · -- the sum is a multiple of four
      have ns : ¬ (u % 4 = 3 ∧ v % 4 = 3) := by omega
      by_cases hi : i % 2 = 1
      · obtain ⟨r, hr⟩ : ∃ r, t = 2 * r := ⟨t / 2, by omega⟩
        have h'' : C * C = ((2 : Nat) : Int) ^ (i + 2) * r := by
          rw [h', hr, Int.pow_succ ((2 : Nat) : Int) (i + 1), Int.mul_assoc]; rfl
        have re : r % 2 = 0 := by
          refine Decidable.byContradiction fun q => ?_
          have := (sq_unit pr2 h'' (by rw [e2]; exact q)).1
          omega
        unfold h2 wv
        simp only [hi, if_pos, ns, if_false, Int.one_mul]
        split <;> split <;> first | rfl | (exfalso; omega)
      · unfold h2
        simp only [hi, if_false, ns, Int.mul_one]
    · obtain ⟨h1, s, hs⟩ := sq_unit pr2 h' (by rw [e2]; exact tz)
      have h8 := sq_odd8 hs tz
      have hi : i % 2 = 1 := by omega
      unfold h2 wv
      simp only [hi, if_pos]
      split <;> split <;> split <;> first | rfl | (exfalso; omega)
  · have e : h2 i u k v = h2 k v i u := (h2_facts (j := 0) hu hu hv).2.1
    rw [e]
    exact h2_lt hv hu hik (by rw [Int.add_comm]; exact h)
/-- Two numbers whose sum is a square. -/
theorem Hm_sum {p : Nat} (hp : Pl p) {A B C : Int} (hA : Sm A) (hB : Sm B) (h : A + B = C * C) : Hm p A B = 1 := by
  unfold Hm
  rcases hp with h0 | hp2 | hp
  · rw [if_pos h0, if_neg]
    intro ⟨q1, q2⟩
    have : 0 ≤ C * C := by rw [← Int.natAbs_mul_self]; omega
    omega
  · rw [if_neg (by omega), if_pos hp2]
    obtain ⟨e1, e2⟩ := vl_spec (p := 2) (by decide) hA
    obtain ⟨e3, e4⟩ := vl_spec (p := 2) (by decide) hB
    exact h2_one e2 e4 (C := C) (by rw [← e1, ← e3]; exact h)
  · obtain ⟨b1, b2, b3⟩ := oddP_bd p hp
    rw [if_neg (by omega), if_neg (by omega)]
    obtain ⟨e1, e2⟩ := vl_spec (p := p) (by omega) hA
    obtain ⟨e3, e4⟩ := vl_spec (p := p) (by omega) hB
    exact ho_one hp e2 e4 (C := C) (by rw [← e1, ← e3]; exact h)
theorem sq_le {x : Nat} (h : x ≤ 40) : x * x ≤ 1600 := Nat.mul_le_mul h h
theorem sm_mul {a : Int} (ha : Lt a) {x : Nat} (h0 : x ≠ 0) (h : x ≤ 40) : Sm (a * ((x : Int) * x)) := by
  have p20 : (2 : Nat) ^ 20 = 1048576 := by decide
  refine ⟨Int.mul_ne_zero ha.1 (Int.mul_ne_zero (by omega) (by omega)), ?_⟩
  rw [← Int.natCast_mul, Int.natAbs_mul, Int.natAbs_natCast]
  have h1 := sq_le h
  have h2 := ha.2.1
  have h3 := ha.2.2
  have := Nat.mul_le_mul (show a.natAbs ≤ 200 by omega) h1
  omega
theorem sm_sq {x : Nat} (h0 : x ≠ 0) (h : x ≤ 1000) : Sm (x : Int) ∧ Sm ((x : Int) * x) := by
  have p20 : (2 : Nat) ^ 20 = 1048576 := by decide
  refine ⟨⟨by omega, by omega⟩, ⟨Int.mul_ne_zero (by omega) (by omega), ?_⟩⟩
  rw [← Int.natCast_mul, Int.natAbs_natCast]
  have := Nat.mul_le_mul h h
  omega
/-- A square factor changes nothing. -/
theorem Hm_sq {p : Nat} (hp : Pl p) {a b : Int} (ha : Lt a) (hb : Sm b) {x : Nat} (h0 : x ≠ 0) (h : x ≤ 40) : Hm p (a * ((x : Int) * x)) b = Hm p a b := by
  obtain ⟨s1, s2⟩ := sm_sq h0 (by omega : x ≤ 1000)
  rw [Hm_mul hp ha.sm s2 (sm_mul ha h0 h) hb, Hm_mul hp s1 s1 s2 hb, pm_sq (Hm_unit hp s1 hb), Int.mul_one]
theorem Hm_of_sq {p : Nat} (hp : Pl p) {b : Int} (hb : Sm b) {z : Int} (hz : Sm (z * z)) (hz1 : Sm z) : Hm p (z * z) b = 1 := by
  rw [Hm_mul hp hz1 hz1 hz hb, pm_sq (Hm_unit hp hz1 hb)]
theorem sm_root {z : Int} (h : Sm (z * z)) : Sm z := by
  have p20 : (2 : Nat) ^ 20 = 1048576 := by decide
  obtain ⟨h0, h1⟩ := h
  have hz : z ≠ 0 := by rintro rfl; exact h0 rfl
  refine ⟨hz, ?_⟩
  rw [Int.natAbs_mul] at h1
  have := Nat.le_mul_of_pos_right z.natAbs (show 0 < z.natAbs by omega)
  omega
/-- **An equation that is solved has every symbol one.** -/
theorem Hm_solved {p : Nat} (hp : Pl p) {a b : Int} (ha : Lt a) (hb : Lt b) {x y : Nat} (hx : x ≤ 40) (hy : y ≤ 40) (hxy : 0 < x + y) {z : Int} (h : a * ((x : Int) * x) + b * ((y : Int) * y) = z * z) : Hm p a b = 1 := by
  by_cases x0 : x = 0
  · subst x0
    have y0 : y ≠ 0 := by omega
    have e : b * ((y : Int) * y) = z * z := by rw [← h]; simp
    have sz : Sm (z * z) := e ▸ sm_mul hb y0 hy
    rw [Hm_symm hp ha.sm hb.sm, ← Hm_sq hp hb ha.sm y0 hy, e]
    exact Hm_of_sq hp ha.sm sz (sm_root sz)
  · by_cases y0 : y = 0
    · subst y0
      have e : a * ((x : Int) * x) = z * z := by rw [← h]; simp
      have sz : Sm (z * z) := e ▸ sm_mul ha x0 hx
      rw [← Hm_sq hp ha hb.sm x0 hx, e]
      exact Hm_of_sq hp hb.sm sz (sm_root sz)
    · have sa := sm_mul ha x0 hx
      have sb := sm_mul hb y0 hy
      have e := Hm_sum hp sa sb h
      rw [Hm_sq hp ha sb x0 hx, Hm_symm hp ha.sm sb, Hm_sq hp hb ha.sm y0 hy, Hm_symm hp hb.sm ha.sm] at e
      exact e
end Go.Proofs.YtokaigninenjhaaQ
