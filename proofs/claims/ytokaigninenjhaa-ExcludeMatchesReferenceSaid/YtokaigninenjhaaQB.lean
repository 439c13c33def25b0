/- Local: for every pair of small numbers a bad place or a solution. -/
import Derived.Test.YtokaigninenjhaaQT
import Derived.Test.YtokaigninenjhaaQA
namespace Go.Proofs.YtokaigninenjhaaQ
set_option linter.unusedVariables false
set_option linter.unusedSimpArgs false
open Go Go.RowKit Go.Proofs.Ytokaigninenjhaa.P22 Go.Proofs.Ytokaigninenjhaa.V22 Go.Proofs.YtokaigninenjhaaW.PrintWords Go.Proofs.YtokaigninenjhaaW.PrintLast Go.Proofs.YtokaigninenjhaaW.PrintMore
theorem plM_small : (List.range 200).all (fun p => !plM.testBit p || (p == 0 || p == 2 || oddP.contains p)) = true := by kernel_rfl
theorem plM_bd : plM < 2 ^ 200 := by unfold plM; decide +kernel
theorem plM_pl {p : Nat} (h : plM.testBit p = true) : Pl p := by
  have hp : p < 200 := by
    rcases Nat.lt_or_ge p 200 with q | q
    · exact q
    · rw [Nat.testBit_lt_two_pow (Nat.lt_of_lt_of_le plM_bd (Nat.pow_le_pow_right (by decide) q))] at h; cases h
  have h1 := List.all_eq_true.1 plM_small p (List.mem_range.2 hp)
  rw [h] at h1
  unfold Pl
  simpa [or_assoc] using h1
def Rel (p : Nat) (a b : Int) : Prop := p = 0 ∨ p = 2 ∨ (p ∈ oddP ∧ a * b % (p : Int) = 0)
/-- A bad place. -/
def Bad (a b : Int) : Prop := ∃ p, Rel p a b ∧ Hm p a b = -1
/-- A solution within the bounds of the search. -/
def Sol (a b : Int) : Prop := ∃ x y z : Nat, x ≤ 14 ∧ y ≤ 14 ∧ 0 < x + y ∧ a * ((x : Int) * x) + b * ((y : Int) * y) = (z : Int) * z
theorem sq_bits (r : Nat) : ∀ (l : List Nat) (m : Nat), (l.foldl (fun m z => m ||| 1 <<< (z * z)) m).testBit r = true → m.testBit r = true ∨ ∃ z ∈ l, z * z = r
  | [], m, h => .inl h
  | x :: l, m, h => by
    rw [List.foldl_cons] at h
    rcases sq_bits r l _ h with h | ⟨z, h1, h2⟩
    · rw [Nat.testBit_or, Bool.or_eq_true, Nat.one_shiftLeft, Nat.testBit_two_pow, decide_eq_true_iff] at h
      rcases h with h | h
      · exact .inl h
      · exact .inr ⟨x, List.mem_cons_self .., h⟩
    · exact .inr ⟨z, List.mem_cons_of_mem _ h1, h2⟩
theorem sqT_of {r : Nat} (h : sqT.testBit r = true) : ∃ z, z * z = r := by
  unfold sqT at h
  rcases sq_bits r _ _ h with h | ⟨z, _, h⟩
  · simp at h
  · exact ⟨z, h⟩
theorem okE_of {a b : Int} {c : Nat} (h : okE a b c = true) : Bad a b ∨ Sol a b := by
  unfold okE at h
  revert h
  generalize (codes >>> (9 * c)) % 512 = e
  intro h
  simp only [] at h
  split at h
  · left
    simp only [Bool.and_eq_true, Bool.or_eq_true, beq_iff_eq, decide_eq_true_eq] at h
    obtain ⟨⟨h1, h2⟩, h3⟩ := h
    refine ⟨e / 2, ?_, h2⟩
    rcases plM_pl h1 with q | q | q
    · exact .inl q
    · exact .inr (.inl q)
    · obtain ⟨b1, _, _⟩ := oddP_bd _ q
      exact .inr (.inr ⟨q, h3.resolve_left (by omega)⟩)
  · right
    simp only [Bool.and_eq_true, beq_iff_eq, decide_eq_true_eq] at h
    obtain ⟨⟨⟨h1, h2⟩, h3⟩, h4, h5⟩ := h
    obtain ⟨z, hz⟩ := sqT_of h5
    refine ⟨_, _, z, h1, h2, h3, ?_⟩
    have hz' := congrArg (fun n : Nat => (n : Int)) hz
    simp only [Int.natCast_mul] at hz'
    rw [hz', Int.toNat_of_nonneg h4]
theorem okR_of {a : Int} : ∀ {n j0 R : Nat}, okR a n j0 R = true → ∀ j, j0 ≤ j → j < j0 + n → j ≠ 200 → Bad a ((j : Int) - 200) ∨ Sol a ((j : Int) - 200)
  | 0, j0, R, _, j, h1, h2, _ => by omega
  | n + 1, j0, R, h, j, h1, h2, hb => by
    unfold okR at h
    by_cases q : j0 = 200
    · rw [if_pos q] at h
      exact okR_of h j (by omega) (by omega) hb
    · rw [if_neg q] at h
      simp only [] at h
      by_cases e : j = j0
      · subst e
        split at h
        · rw [Bool.and_eq_true] at h; exact okE_of h.1
        · rw [Bool.and_eq_true] at h; exact okE_of h.1
      · split at h
        · rw [Bool.and_eq_true] at h; exact okR_of h.2 j (by omega) (by omega) hb
        · rw [Bool.and_eq_true] at h; exact okR_of h.2 j (by omega) (by omega) hb
theorem okT_of : ∀ {l : List Nat} {i : Nat}, okT i l = true → ∀ j < l.length, ∃ R, okR ((i + j : Nat) : Int) (i + j + 201) 0 R = true
  | [], _, _, j, hj => by simp at hj
  | R :: l, i, h, j, hj => by
    unfold okT at h
    rw [Bool.and_eq_true] at h
    cases j with
    | zero => exact ⟨R, h.1⟩
    | succ j =>
      obtain ⟨R', h'⟩ := okT_of h.2 j (by simpa using hj)
      exact ⟨R', by rw [show i + (j + 1) = i + 1 + j by omega]; exact h'⟩
theorem row_of {n : Nat} (hn : n ≤ 200) (h1 : 1 ≤ n) : ∃ R, okR (n : Int) (n + 201) 0 R = true := by
  have l0 : tab0.length = 50 := by kernel_rfl
  have l1 : tab1.length = 50 := by kernel_rfl
  have l2 : tab2.length = 50 := by kernel_rfl
  have l3 : tab3.length = 50 := by kernel_rfl
  by_cases k0 : n ≤ 50
  · have := okT_of tab0_ok (n - 1) (by omega)
    rwa [show 1 + (n - 1) = n by omega] at this
  · by_cases k1 : n ≤ 100
    · have := okT_of tab1_ok (n - 51) (by omega)
      rwa [show 51 + (n - 51) = n by omega] at this
    · by_cases k2 : n ≤ 150
      · have := okT_of tab2_ok (n - 101) (by omega)
        rwa [show 101 + (n - 101) = n by omega] at this
      · have := okT_of tab3_ok (n - 151) (by omega)
        rwa [show 151 + (n - 151) = n by omega] at this
theorem half {a b : Int} (ha : Lt a) (hb : Lt b) (hab : b ≤ a) : Bad a b ∨ Sol a b := by
  have ha1 := ha.1
  have ha2 := ha.2.1
  have ha3 := ha.2.2
  have hb1 := hb.1
  have hb2 := hb.2.1
  by_cases hneg : a < 0
  · left
    refine ⟨0, .inl rfl, ?_⟩
    unfold Hm
    rw [if_pos rfl, if_pos ⟨hneg, by omega⟩]
  · obtain ⟨R, hR⟩ := row_of (n := a.toNat) (by omega) (by omega)
    have ea : ((a.toNat : Nat) : Int) = a := by omega
    have eb : (((b + 200).toNat : Nat) : Int) - 200 = b := by omega
    rw [ea] at hR
    have := okR_of hR (b + 200).toNat (by omega) (by omega) (by omega)
    rwa [eb] at this
theorem Rel.pl {p : Nat} {a b : Int} (h : Rel p a b) : Pl p := by
  rcases h with h | h | h
  · exact .inl h
  · exact .inr (.inl h)
  · exact .inr (.inr h.1)
/-- **Every pair has a bad place or a solution.** -/
theorem whole {a b : Int} (ha : Lt a) (hb : Lt b) : Bad a b ∨ Sol a b := by
  rcases Int.le_total b a with h | h
  · exact half ha hb h
  · rcases half hb ha h with ⟨p, h1, h2⟩ | ⟨x, y, z, h1, h2, h3, h4⟩
    · left
      refine ⟨p, ?_, ?_⟩
      · rcases h1 with h1 | h1 | h1
        · exact .inl h1
        · exact .inr (.inl h1)
        · exact .inr (.inr ⟨h1.1, by rw [Int.mul_comm]; exact h1.2⟩)
      · rw [Hm_symm h1.pl ha.sm hb.sm]; exact h2
    · right
      exact ⟨y, x, z, h2, h1, by omega, by rw [Int.add_comm]; exact h4⟩
/-- **Never both.** -/
theorem never {a b : Int} (ha : Lt a) (hb : Lt b) (hB : Bad a b) {x y : Nat} (hx : x ≤ 40) (hy : y ≤ 40) (hxy : 0 < x + y) {z : Int} (h : a * ((x : Int) * x) + b * ((y : Int) * y) = z * z) : False := by
  obtain ⟨p, h1, h2⟩ := hB
  have := Hm_solved h1.pl ha hb hx hy hxy h
  omega
end Go.Proofs.YtokaigninenjhaaQ
