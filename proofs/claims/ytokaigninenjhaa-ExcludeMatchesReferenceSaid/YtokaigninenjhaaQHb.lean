/- Local: the Hilbert symbol is bimultiplicative and symmetric; the product over the places below 200. -/
import Derived.Test.YtokaigninenjhaaQH
import Derived.KernelRfl
namespace Go.Proofs.YtokaigninenjhaaQ
set_option linter.unusedVariables false
set_option linter.unusedSimpArgs false
open Go Go.RowKit Go.Proofs.Ytokaigninenjhaa.P22 Go.Proofs.Ytokaigninenjhaa.V22 Go.Proofs.YtokaigninenjhaaW.PrintWords Go.Proofs.YtokaigninenjhaaW.PrintLast Go.Proofs.YtokaigninenjhaaW.PrintMore
/-! ### the Legendre symbol is a power -/
def chkE (p : Nat) : Bool := (fun m => (List.range p).all fun r => r ^ ((p - 1) / 2) % p == (if r = 0 then 0 else if m.testBit r then 1 else p - 1)) (sqM p)
theorem chkE_all : oddP.all chkE = true := by kernel_rfl
theorem Lv_pow {p r : Nat} (hp : p ∈ oddP) (hr : r < p) : (r = 0 ∧ r ^ ((p - 1) / 2) % p = 0 ∧ Lv p r = 0) ∨ (r ≠ 0 ∧ r ^ ((p - 1) / 2) % p = 1 ∧ Lv p r = 1) ∨ (r ≠ 0 ∧ r ^ ((p - 1) / 2) % p = p - 1 ∧ Lv p r = -1) := by
  have h := List.all_eq_true.1 chkE_all p hp
  unfold chkE at h
  have h2 := eq_of_beq (List.all_eq_true.1 h r (List.mem_range.2 hr))
  rw [h2]
  unfold Lv
  by_cases h0 : r = 0
  · simp [h0]
  · by_cases h1 : (sqM p).testBit r = true
    · simp [h0, h1]
    · simp [h0, h1]
theorem sq_last : ∀ p ∈ oddP, (p - 1) * (p - 1) % p = 1 ∧ (p - 1) * 1 % p = p - 1 ∧ 1 * (p - 1) % p = p - 1 ∧ 1 * 1 % p = 1 := by decide
theorem Lv_mulO {p r s : Nat} (hp : p ∈ oddP) (hr : r < p) (hs : s < p) : Lv p (r * s % p) = Lv p r * Lv p s := by
  obtain ⟨b1, b2, b3⟩ := oddP_bd p hp
  obtain ⟨c1, c2, c3, c4⟩ := sq_last p hp
  have hm : (r * s % p) ^ ((p - 1) / 2) % p = (r ^ ((p - 1) / 2) % p) * (s ^ ((p - 1) / 2) % p) % p := by
    rw [← Nat.pow_mod, Nat.mul_pow, Nat.mul_mod]
  have hl : r * s % p < p := Nat.mod_lt _ (by omega)
  rcases Lv_pow hp hr with ⟨h0, h1, h2⟩ | ⟨h0, h1, h2⟩ | ⟨h0, h1, h2⟩ <;> rcases Lv_pow hp hs with ⟨g0, g1, g2⟩ | ⟨g0, g1, g2⟩ | ⟨g0, g1, g2⟩ <;> rcases Lv_pow hp hl with ⟨k0, k1, k2⟩ | ⟨k0, k1, k2⟩ | ⟨k0, k1, k2⟩ <;> rw [h1, g1, k1] at hm <;> rw [h2, g2, k2] <;> first | rfl | (exfalso; simp at hm; done) | (exfalso; simp at hm; omega) | (exfalso; rw [c1] at hm; omega) | (exfalso; rw [c2] at hm; omega) | (exfalso; rw [c3] at hm; omega) | (exfalso; rw [c4] at hm; omega)
theorem Lg_mulO {p : Nat} (hp : p ∈ oddP) (a b : Int) : Lg p (a * b) = Lg p a * Lg p b := by
  obtain ⟨b1, b2, b3⟩ := oddP_bd p hp
  obtain ⟨r, hr, er⟩ := emod_nat b1 a
  obtain ⟨s, hs, es⟩ := emod_nat b1 b
  unfold Lg
  rw [Int.mul_emod, er, es]
  have e : ((r : Int) * (s : Int)) % (p : Int) = ((r * s % p : Nat) : Int) := by rw [Int.natCast_emod, Int.natCast_mul]
  rw [e]
  simp only [Int.toNat_natCast]
  exact Lv_mulO hp hr hs
theorem Lg_unit {p : Nat} (hp : p ∈ oddP) {a : Int} (ha : a % (p : Int) ≠ 0) : Lg p a = 1 ∨ Lg p a = -1 := by
  obtain ⟨b1, b2, b3⟩ := oddP_bd p hp
  obtain ⟨r, hr, er⟩ := emod_nat b1 a
  unfold Lg
  rw [er, Int.toNat_natCast]
  rcases Lv_vals p r with h | h | h
  · exfalso; apply ha; rw [er, h.2]; rfl
  · exact .inl h.1
  · exact .inr h.1
/-! ### primes below 200 -/
def td (q : Nat) : Nat → Nat → Bool
  | 0, d => false
  | n + 1, d => if d * d ≤ q then (if q % d = 0 then false else td q n (d + 1)) else true
def prB (q : Nat) : Bool := 2 ≤ q && (List.range q).all fun d => d < 2 || q % d != 0
theorem prB_pr {q : Nat} (h : prB q = true) : Pr q := by
  unfold prB at h
  rw [Bool.and_eq_true] at h
  refine ⟨of_decide_eq_true h.1, fun d h1 h2 h3 => ?_⟩
  have := List.all_eq_true.1 h.2 d (List.mem_range.2 h2)
  have e : q % d = 0 := Nat.mod_eq_zero_of_dvd h3
  simp [e] at this
  omega
theorem oddP_prB : oddP.all prB = true := by kernel_rfl
theorem pr_of {p : Nat} (hp : p ∈ oddP) : Pr p := prB_pr (List.all_eq_true.1 oddP_prB p hp)
theorem pr2 : Pr 2 := prB_pr (by decide)
/-! ### the symbol at an odd prime -/
theorem pm_sq {x : Int} (h : x = 1 ∨ x = -1) : x * x = 1 := by rcases h with h | h <;> rw [h] <;> rfl
theorem pm_mul1 {x y : Int} (h : x = 1 ∨ x = -1) (g : y = 1 ∨ y = -1) : x * y = 1 ∨ x * y = -1 := by
  rcases h with h | h <;> rcases g with g | g <;> rw [h, g] <;> decide
theorem ho_unit {p : Nat} (hp : p ∈ oddP) {i k : Nat} {u v : Int} (hu : u % (p : Int) ≠ 0) (hv : v % (p : Int) ≠ 0) : ho p i u k v = 1 ∨ ho p i u k v = -1 := by
  unfold ho
  refine pm_mul1 (pm_mul1 ?_ ?_) ?_
  · split <;> simp
  · split
    · exact Lg_unit hp hu
    · simp
  · split
    · exact Lg_unit hp hv
    · simp
theorem ho_symm {p i k : Nat} {u v : Int} : ho p i u k v = ho p k v i u := by
  unfold ho
  have e : (if p % 4 = 3 ∧ i % 2 = 1 ∧ k % 2 = 1 then (-1 : Int) else 1) = (if p % 4 = 3 ∧ k % 2 = 1 ∧ i % 2 = 1 then -1 else 1) := by
    by_cases h : i % 2 = 1 <;> by_cases g : k % 2 = 1 <;> simp [h, g]
  rw [e, Int.mul_assoc, Int.mul_assoc, Int.mul_comm (if k % 2 = 1 then Lg p u else 1)]
theorem ho_mul {p : Nat} (hp : p ∈ oddP) {i j k : Nat} {u w v : Int} (hv : v % (p : Int) ≠ 0) : ho p (i + j) (u * w) k v = ho p i u k v * ho p j w k v := by
  have hs := pm_sq (Lg_unit hp hv)
  unfold ho
  rw [Lg_mulO hp]
  generalize Lg p u = U
  generalize Lg p w = W
  generalize Lg p v = V at hs
  rcases Nat.mod_two_eq_zero_or_one i with hi | hi <;> rcases Nat.mod_two_eq_zero_or_one j with hj | hj <;> rcases Nat.mod_two_eq_zero_or_one k with hk | hk <;> by_cases h4 : p % 4 = 3 <;> have hij : (i + j) % 2 = (i % 2 + j % 2) % 2 := Nat.add_mod i j 2 <;> rw [hi, hj] at hij <;> simp [hi, hj, hk, h4, hij, hs, Int.mul_comm, Int.mul_left_comm, Int.mul_assoc, Int.mul_neg, Int.neg_mul]
  all_goals first | done | (rw [← Int.mul_assoc V V, hs]; simp) | (simp [hs, ← Int.mul_assoc]) 
/-! ### the symbol at two -/
def w8 (n : Nat) : Int := if n = 3 ∨ n = 5 then -1 else 1
def H2 (i u k v : Nat) : Int := (if u % 4 = 3 ∧ v % 4 = 3 then -1 else 1) * (if i % 2 = 1 then w8 v else 1) * (if k % 2 = 1 then w8 u else 1)
theorem h2_H2 (i : Nat) (u : Int) (k : Nat) (v : Int) : h2 i u k v = H2 (i % 2) (u % 8).toNat (k % 2) (v % 8).toNat := by
  unfold h2 H2 w8 wv
  have hu := Int.emod_nonneg u (show (8 : Int) ≠ 0 by decide)
  have hv := Int.emod_nonneg v (show (8 : Int) ≠ 0 by decide)
  have e1 : (u % 4 = 3 ∧ v % 4 = 3) ↔ ((u % 8).toNat % 4 = 3 ∧ (v % 8).toNat % 4 = 3) := by omega
  have e2 : ∀ x : Int, (x % 8 = 3 ∨ x % 8 = 5) ↔ ((x % 8).toNat = 3 ∨ (x % 8).toNat = 5) := by intro x; omega
  simp only [e1, e2, Nat.mod_mod]
def chkH2 : Bool := (List.range 2).all fun i => (List.range 2).all fun j => (List.range 2).all fun k => [1, 3, 5, 7].all fun u => [1, 3, 5, 7].all fun w => [1, 3, 5, 7].all fun v => H2 ((i + j) % 2) (u * w % 8) k v == H2 i u k v * H2 j w k v && H2 i u k v == H2 k v i u && (H2 i u k v == 1 || H2 i u k v == -1)
theorem chkH2_ok : chkH2 = true := by kernel_rfl
theorem H2_all (i : Nat) (hi : i < 2) (j : Nat) (hj : j < 2) (k : Nat) (hk : k < 2) (u : Nat) (hu : u < 8) (w : Nat) (hw : w < 8) (v : Nat) (hv : v < 8) (ou : u % 2 = 1) (ow : w % 2 = 1) (ov : v % 2 = 1) : H2 ((i + j) % 2) (u * w % 8) k v = H2 i u k v * H2 j w k v ∧ H2 i u k v = H2 k v i u ∧ (H2 i u k v = 1 ∨ H2 i u k v = -1) := by
  have m4 : ∀ u < 8, u % 2 = 1 → u ∈ [1, 3, 5, 7] := by decide
  have h := chkH2_ok
  unfold chkH2 at h
  have h1 := List.all_eq_true.1 (List.all_eq_true.1 (List.all_eq_true.1 h i (List.mem_range.2 hi)) j (List.mem_range.2 hj)) k (List.mem_range.2 hk)
  have h2 := List.all_eq_true.1 (List.all_eq_true.1 (List.all_eq_true.1 h1 u (m4 u hu ou)) w (m4 w hw ow)) v (m4 v hv ov)
  simp only [Bool.and_eq_true, Bool.or_eq_true, beq_iff_eq] at h2
  exact ⟨h2.1.1, h2.1.2, h2.2⟩
theorem odd8 {u : Int} (hu : u % ((2 : Nat) : Int) ≠ 0) : (u % 8).toNat < 8 ∧ (u % 8).toNat % 2 = 1 := by omega
theorem h2_facts {i j k : Nat} {u w v : Int} (hu : u % ((2 : Nat) : Int) ≠ 0) (hw : w % ((2 : Nat) : Int) ≠ 0) (hv : v % ((2 : Nat) : Int) ≠ 0) :
    h2 (i + j) (u * w) k v = h2 i u k v * h2 j w k v ∧ h2 i u k v = h2 k v i u ∧ (h2 i u k v = 1 ∨ h2 i u k v = -1) := by
  obtain ⟨a1, a2⟩ := odd8 hu
  obtain ⟨b1, b2⟩ := odd8 hw
  obtain ⟨c1, c2⟩ := odd8 hv
  have := H2_all (i % 2) (Nat.mod_lt _ (by decide)) (j % 2) (Nat.mod_lt _ (by decide)) (k % 2) (Nat.mod_lt _ (by decide)) _ a1 _ b1 _ c1 a2 b2 c2
  have e : (u * w % 8).toNat = (u % 8).toNat * (w % 8).toNat % 8 := by
    have h1 : ((u % 8).toNat : Int) = u % 8 := by omega
    have h2 : ((w % 8).toNat : Int) = w % 8 := by omega
    have h3 : (((u % 8).toNat * (w % 8).toNat % 8 : Nat) : Int) = u * w % 8 := by
      rw [Int.natCast_emod, Int.natCast_mul, h1, h2, Int.mul_emod u w]
      rfl
    omega
  simp only [h2_H2, e]
  rw [Nat.add_mod i j 2]
  simpa using this
/-! ### the symbol -/
def Pl (p : Nat) : Prop := p = 0 ∨ p = 2 ∨ p ∈ oddP
theorem Hm_symm {p : Nat} (hp : Pl p) {a b : Int} (ha : Sm a) (hb : Sm b) : Hm p a b = Hm p b a := by
  unfold Hm
  by_cases h0 : p = 0
  · rw [if_pos h0, if_pos h0]
    by_cases h : a < 0 <;> by_cases g : b < 0 <;> simp [h, g]
  · rw [if_neg h0, if_neg h0]
    by_cases h2 : p = 2
    · rw [if_pos h2, if_pos h2]
      have e1 := (vl_spec (p := 2) (by decide) ha).2
      have e2 := (vl_spec (p := 2) (by decide) hb).2
      exact (h2_facts (j := 0) e1 e1 e2).2.1
    · rw [if_neg h2, if_neg h2]; exact ho_symm
theorem Hm_unit {p : Nat} (hp : Pl p) {a b : Int} (ha : Sm a) (hb : Sm b) : Hm p a b = 1 ∨ Hm p a b = -1 := by
  unfold Hm
  rcases hp with h0 | h2 | hp
  · rw [if_pos h0]; split <;> simp
  · rw [if_neg (by omega), if_pos h2]
    have e1 := (vl_spec (p := 2) (by decide) ha).2
    have e2 := (vl_spec (p := 2) (by decide) hb).2
    exact (h2_facts (j := 0) e1 e1 e2).2.2
  · obtain ⟨b1, b2, b3⟩ := oddP_bd p hp
    rw [if_neg (by omega), if_neg (by omega)]
    exact ho_unit hp (vl_spec (by omega) ha).2 (vl_spec (by omega) hb).2
theorem neg_mul_iff {a b : Int} (ha : a ≠ 0) (hb : b ≠ 0) : (a * b < 0) ↔ ((a < 0) ↔ ¬ (b < 0)) := by
  rcases Int.lt_or_gt_of_ne ha with h | h <;> rcases Int.lt_or_gt_of_ne hb with g | g
  · have := Int.mul_pos_of_neg_of_neg h g
    constructor <;> intro q <;> omega
  · have := Int.mul_neg_of_neg_of_pos h g
    constructor <;> intro q <;> omega
  · have := Int.mul_neg_of_pos_of_neg h g
    constructor <;> intro q <;> omega
  · have := Int.mul_pos h g
    constructor <;> intro q <;> omega
theorem Hm_mul {p : Nat} (hp : Pl p) {a b c : Int} (ha : Sm a) (hb : Sm b) (hab : Sm (a * b)) (hc : Sm c) : Hm p (a * b) c = Hm p a c * Hm p b c := by
  unfold Hm
  rcases hp with h0 | h2 | hp
  · rw [if_pos h0, if_pos h0, if_pos h0]
    have := neg_mul_iff ha.1 hb.1
    by_cases h : a < 0 <;> by_cases g : b < 0 <;> by_cases f : c < 0 <;> simp [h, g, f, this]
  · rw [if_neg (by omega), if_pos h2, if_neg (by omega), if_pos h2, if_neg (by omega), if_pos h2, vl_mul pr2 ha hb hab]
    exact (h2_facts (vl_spec (p := 2) (by decide) ha).2 (vl_spec (p := 2) (by decide) hb).2 (vl_spec (p := 2) (by decide) hc).2).1
  · obtain ⟨b1, b2, b3⟩ := oddP_bd p hp
    rw [if_neg (by omega), if_neg (by omega), if_neg (by omega), if_neg (by omega), if_neg (by omega), if_neg (by omega), vl_mul (pr_of hp) ha hb hab]
    exact ho_mul hp (vl_spec (by omega) hc).2
end Go.Proofs.YtokaigninenjhaaQ
