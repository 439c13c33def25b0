/- LocalLegendre: the plain law. -/
import Derived.Test.YtokaigninenjhaaQL
namespace Go.Proofs.YtokaigninenjhaaQ
set_option linter.unusedVariables false
set_option linter.unusedSimpArgs false
open Go Go.RowKit Go.Proofs.Ytokaigninenjhaa.V22 Go.Proofs.YtokaigninenjhaaW.PrintWords Go.Proofs.YtokaigninenjhaaW.PrintLast Go.Proofs.YtokaigninenjhaaW.PrintMore
def smallP : List Nat := [3, 5, 7, 11, 13, 17, 19, 23, 29, 31, 37, 41, 43, 47, 53, 59, 61, 67, 71, 73, 79, 83, 89, 97]
theorem small_odd : ∀ p ∈ smallP, p ∈ oddP := by decide
theorem small_bd : ∀ p ∈ smallP, 3 ≤ p ∧ p < 100 := by decide
def chkM (p : Nat) : Bool := (fun m => ((List.range p).all fun r => (List.range p).all fun s => LvM m (r * s % p) == LvM m r * LvM m s) && ((List.range p).foldl (fun a r => a + LvM m r) 0 == 0)) (sqM p)
theorem chkM_all : smallP.all chkM = true := by kernel_rfl
theorem Lv_mul {p : Nat} (hp : p ∈ smallP) {r s : Nat} (hr : r < p) (hs : s < p) : Lv p (r * s % p) = Lv p r * Lv p s := by
  have h := List.all_eq_true.1 chkM_all p hp
  unfold chkM at h
  rw [Bool.and_eq_true] at h
  have := List.all_eq_true.1 (List.all_eq_true.1 h.1 r (List.mem_range.2 hr)) s (List.mem_range.2 hs)
  exact eq_of_beq this
theorem Lv_sum {p : Nat} (hp : p ∈ smallP) : (List.range p).foldl (fun a r => a + Lv p r) 0 = 0 := by
  have h := List.all_eq_true.1 chkM_all p hp
  unfold chkM at h
  rw [Bool.and_eq_true] at h
  exact eq_of_beq h.2
theorem Lv_vals (p r : Nat) : (Lv p r = 0 ∧ r = 0) ∨ (Lv p r = 1 ∧ r ≠ 0) ∨ (Lv p r = -1 ∧ r ≠ 0) := by
  unfold Lv
  by_cases h : r = 0
  · simp [h]
  · simp only [if_neg h]
    split <;> simp [h]
theorem emod_nat {p : Nat} (hp : 3 ≤ p) (a : Int) : ∃ r : Nat, r < p ∧ a % (p : Int) = r := by
  have := Int.emod_lt_of_pos a (show (0 : Int) < p by omega)
  have := Int.emod_nonneg a (show (p : Int) ≠ 0 by omega)
  exact ⟨(a % (p : Int)).toNat, by omega, by omega⟩
theorem Lg_mul {p : Nat} (hp : p ∈ smallP) (a b : Int) : Lg p (a * b) = Lg p a * Lg p b := by
  obtain ⟨b1, b2⟩ := small_bd p hp
  obtain ⟨r, hr, er⟩ := emod_nat b1 a
  obtain ⟨s, hs, es⟩ := emod_nat b1 b
  unfold Lg
  rw [Int.mul_emod, er, es]
  have e : ((r : Int) * (s : Int)) % (p : Int) = ((r * s % p : Nat) : Int) := by rw [Int.natCast_emod, Int.natCast_mul]
  rw [e]
  simp only [Int.toNat_natCast]
  exact Lv_mul hp hr hs
theorem Lg_add {p : Nat} (a b : Int) : Lg p (a + (p : Int) * b) = Lg p a := by
  unfold Lg
  rw [Int.add_mul_emod_self_left]
theorem Lg_abs (p : Nat) (a : Int) : -1 ≤ Lg p a ∧ Lg p a ≤ 1 := by
  unfold Lg
  rcases Lv_vals p (a % (p : Int)).toNat with h | h | h <;> rw [h.1] <;> decide
def primesL : List Int := [2, 3, 5, 7, 11, 13, 17, 19, 23, 29, 31, 37, 41, 43, 47, 53, 59, 61, 67, 71, 73, 79, 83, 89, 97]
end Go.Proofs.YtokaigninenjhaaQ
