/- The law that the row states of plexus/plexuslaw23.BoundTight: for every input the answer is true. Under no condition. -/
import Derived.Test.YtcanekmlabehgaaPx9
import Derived.Test.YtcanekmlabehgaaQCode
import Derived.Test.YtcanekmlabehgaaQBound
namespace Go.Proofs.Ytcanekmlabehgaa.Pure
set_option linter.unusedVariables false
set_option linter.unusedSimpArgs false
open Go.RowKit Go.Proofs.Ytcanekmlabehgaa.P Go.Proofs.YtcanekmlabehgaaW.PrintWords Go.Proofs.YtcanekmlabehgaaW.PrintLast Go.Proofs.YtcanekmlabehgaaW.PrintMore Go.Proofs.YtcanekmlabehgaaQ

/-! ### the plain law: words with syndrome 0 -/
def synd : Nat → Nat → Nat
  | 0, _ => 0
  | l + 1, w => synd l w ^^^ (if w / 2 ^ l % 2 = 1 then l + 1 else 0)
theorem synd_lt : ∀ l w, l ≤ 15 → synd l w < 16
  | 0, w, _ => by simp [synd]
  | l + 1, w, h => by
    have := synd_lt l w (by omega)
    rw [synd]
    refine Nat.xor_lt_two_pow (n := 4) this ?_
    split <;> omega
theorem synd_add (l w : Nat) : ∀ i, i ≤ l → synd i (2 ^ l + w) = synd i w
  | 0, _ => rfl
  | i + 1, h => by
    have e : (2 ^ l + w) / 2 ^ i % 2 = w / 2 ^ i % 2 := by
      rw [show l = i + (1 + (l - i - 1)) by omega, Nat.pow_add, Nat.pow_add, Nat.mul_add_div (Nat.pow_pos (by decide)), Nat.pow_one, Nat.mul_add_mod]
    rw [synd, synd, synd_add l w i (by omega), e]
theorem synd_top {l w : Nat} (h : w < 2 ^ l) : synd (l + 1) w = synd l w := by
  rw [synd, Nat.div_eq_of_lt h]; simp
theorem synd_next {l w : Nat} (h : w < 2 ^ l) : synd (l + 1) (2 ^ l + w) = synd l w ^^^ (l + 1) := by
  rw [synd, synd_add l w l (Nat.le_refl _)]
  have : (2 ^ l + w) / 2 ^ l = 1 := by
    rw [Nat.add_comm, Nat.add_div_right _ (Nat.pow_pos (by decide)), Nat.div_eq_of_lt h]
  rw [this]; simp
def cntS : Nat → Nat → Nat
  | 0, s => if s = 0 then 1 else 0
  | l + 1, s => cntS l s + cntS l (s ^^^ (l + 1))
theorem xor_flip (a b s : Nat) : a ^^^ b = s ↔ a = s ^^^ b := by
  constructor
  · rintro rfl; rw [Nat.xor_assoc, Nat.xor_self, Nat.xor_zero]
  · rintro rfl; rw [Nat.xor_assoc, Nat.xor_self, Nat.xor_zero]
theorem cntS_eq : ∀ l s, (List.range (2 ^ l)).countP (fun w => decide (synd l w = s)) = cntS l s
  | 0, s => by
    simp only [Nat.pow_zero, List.range_one, List.countP_singleton, synd, cntS]
    by_cases h : s = 0
    · subst h; rfl
    · rw [if_neg h, if_neg]; exact fun e => h (of_decide_eq_true e).symm
  | l + 1, s => by
    rw [Nat.pow_succ, Nat.mul_two, List.range_add, List.countP_append, List.countP_map, cntS, ← cntS_eq l s, ← cntS_eq l (s ^^^ (l + 1))]
    congr 1
    · refine List.countP_congr fun w hw => ?_
      simp only [decide_eq_true_eq]
      rw [synd_top (List.mem_range.1 hw)]
    · refine List.countP_congr fun w hw => ?_
      simp only [Function.comp, decide_eq_true_eq]
      rw [synd_next (List.mem_range.1 hw), xor_flip]
def reach : Nat → Nat → Nat → Bool
  | 0, s, p => decide (s = 0) && decide (p = 0)
  | l + 1, s, 0 => reach l s 0
  | l + 1, s, p + 1 => reach l s (p + 1) || reach l (s ^^^ (l + 1)) p
def popT : Nat → Nat → Nat
  | 0, _ => 0
  | l + 1, w => popT l w + w / 2 ^ l % 2
theorem reach_of : ∀ l w, reach l (synd l w) (popT l w) = true
  | 0, w => rfl
  | l + 1, w => by
    have ih := reach_of l w
    rw [synd, popT]
    have h2 : w / 2 ^ l % 2 = 0 ∨ w / 2 ^ l % 2 = 1 := by omega
    rcases h2 with h | h
    · rw [h, if_neg (by decide), Nat.xor_zero, Nat.add_zero]
      cases hp : popT l w with
      | zero => rw [hp] at ih; exact ih
      | succ p => rw [hp] at ih; rw [reach, ih]; rfl
    · rw [h, if_pos rfl]
      rw [reach, Nat.xor_assoc, Nat.xor_self, Nat.xor_zero, ih, Bool.or_true]
theorem popT_eq : ∀ l w, popT l w = pop l w := by
  have key : ∀ l w, pop (l + 1) w = pop l w + w / 2 ^ l % 2 := by
    intro l
    induction l with
    | zero => intro w; simp [pop]
    | succ l ih =>
      intro w
      rw [pop, ih, pop, Nat.pow_succ, Nat.mul_comm, ← Nat.div_div_eq_div_mul]
      omega
  intro l
  induction l with
  | zero => intro w; rfl
  | succ l ih => intro w; rw [popT, ih, key]
/-- A word other than 0 with syndrome 0 has three ones at least. -/
theorem three_ones {l w : Nat} (hl : l = 3 ∨ l = 7 ∨ l = 15) (hw : w < 2 ^ l) (h0 : 0 < w) (hs : synd l w = 0) : 3 ≤ pop 16 w := by
  have hr := reach_of l w
  rw [hs, popT_eq] at hr
  rw [pop_more hw (by omega)]
  have hp : pop l w ≠ 0 := fun h => by have := pop_pos hw h; omega
  have n1 : reach l 0 1 = false := by rcases hl with rfl | rfl | rfl <;> decide +kernel
  have n2 : reach l 0 2 = false := by rcases hl with rfl | rfl | rfl <;> decide +kernel
  rcases Nat.lt_or_ge (pop l w) 3 with h | h
  · have : pop l w = 1 ∨ pop l w = 2 := by omega
    rcases this with h | h
    · rw [h, n1] at hr; exact absurd hr (by decide)
    · rw [h, n2] at hr; exact absurd hr (by decide)
  · exact h
theorem small_ones : ∀ w, w < 7 → pop 16 w < 3 := by decide +kernel
theorem seven_ones : pop 16 7 = 3 := by decide +kernel
theorem seven_synd {l : Nat} (hl : l = 3 ∨ l = 7 ∨ l = 15) : synd l 7 = 0 := by rcases hl with rfl | rfl | rfl <;> decide +kernel
def leastAt (w : Nat) : Nat := if w ≤ 7 then 16 else 3
def codeAt (l w : Nat) : Nat := (List.range w).countP fun v => decide (synd l v = 0)
theorem codeAt_le (l w : Nat) : codeAt l w ≤ w := by
  have := List.countP_le_length (p := fun v => decide (synd l v = 0)) (l := List.range w)
  rw [List.length_range] at this
  exact this
theorem codeAt_succ (l w : Nat) : codeAt l (w + 1) = codeAt l w + (if synd l w = 0 then 1 else 0) := by
  unfold codeAt
  rw [List.range_succ, List.countP_append, List.countP_singleton]
  congr 1
  simp only [decide_eq_true_eq]
def evenAt (w : Nat) : Nat := (List.range w).countP fun v => decide (pop 16 v % 2 = 0)
theorem evenAt_le (w : Nat) : evenAt w ≤ w := by
  have := List.countP_le_length (p := fun v => decide (pop 16 v % 2 = 0)) (l := List.range w)
  rw [List.length_range] at this
  exact this
theorem evenAt_succ (w : Nat) : evenAt (w + 1) = evenAt w + (if pop 16 w % 2 = 0 then 1 else 0) := by
  unfold evenAt
  rw [List.range_succ, List.countP_append, List.countP_singleton]
  by_cases h : pop 16 w % 2 = 0
  · rw [if_pos h, if_pos (decide_eq_true h)]
  · rw [if_neg h, if_neg (fun e => h (of_decide_eq_true e))]
theorem evenAt_two (N : Nat) : evenAt (2 * N) = N := by
  induction N with
  | zero => rfl
  | succ N ih =>
    rw [show 2 * (N + 1) = 2 * N + 1 + 1 by omega, evenAt_succ, evenAt_succ, ih]
    have h0 : pop 16 (2 * N) = pop 15 N := by rw [pop]; rw [show 2 * N / 2 = N by omega]; omega
    have h1 : pop 16 (2 * N + 1) = 1 + pop 15 N := by rw [pop]; rw [show (2 * N + 1) / 2 = N by omega]; omega
    rw [h0, h1]
    split <;> split <;> omega

/-! ### the walk's mirror -/
theorem tight_bit {w i : Nat} (hw : w < 2 ^ 16) (hi : i ≤ 16) : Go.bits .and .i64 (shr .i64 (w : Int) (i : Int)) 1 = ((w / 2 ^ i % 2 : Nat) : Int) := by
  have h2 : shr .i64 (w : Int) (i : Int) = ((w / 2 ^ i : Nat) : Int) := by
    unfold shr
    rw [show min (i : Int).toNat IntKind.i64.bits = i from by simp [IntKind.bits]; omega]
    simp
  have h4 : w / 2 ^ i ≤ w := Nat.div_le_self _ _
  rw [h2, show (1 : Int) = ((1 : Nat) : Int) from rfl, and_nat (by omega) (by omega), Nat.and_one_is_mod]

theorem tight_l2 (x13 : Nat) (h2 : 2 ≤ x13) (h16 : x13 ≤ 16)
    (fin : Ev (fun k => plexuslaw23_BoundTight.l2 k true x13 ((evenAt (2 ^ x13) : Nat) : Int) ((2 ^ x13 : Nat) : Int)) true) :
    ∀ (m w : Nat), w + m = 2 ^ x13 → Ev (fun k => plexuslaw23_BoundTight.l2 k true x13 ((evenAt w : Nat) : Int) w) true := by
  have hN : 2 ^ x13 ≤ 2 ^ 16 := Nat.pow_le_pow_right (n := 2) (by decide) h16
  intro m
  induction m with
  | zero => intro w hw; rw [Nat.add_zero] at hw; subst hw; exact fin
  | succ m ih =>
    intro w hw
    have he := evenAt_le w
    refine Ev.step (f := fun k => (plexusref23_Weight.f k (w : Int)).bind fun t455 => (if (Int.tmod t455 2) = 0 then (plexuslaw23_BoundTight.l2 k true x13 ((evenAt w + 1 : Nat) : Int) ((w + 1 : Nat) : Int)) else (plexuslaw23_BoundTight.l2 k true x13 ((evenAt w : Nat) : Int) ((w + 1 : Nat) : Int)))) (fun k => ?_) ?_
    · simp only [plexuslaw23_BoundTight.l2, power_f x13 h16, Option.bind_some]
      rw [if_pos (by omega), w64 (x := (w : Int) + 1) (by omega) (by omega), w64 (x := ((evenAt w : Nat) : Int) + 1) (by omega) (by omega)]
      rfl
    · refine Ev.bind (weight_f w (by omega)) ?_
      have := ih (w + 1) (by omega)
      rw [evenAt_succ] at this
      rw [show Int.tmod ((pop 16 w : Nat) : Int) 2 = ((pop 16 w % 2 : Nat) : Int) from rfl]
      by_cases hp : pop 16 w % 2 = 0
      · rw [if_pos hp] at this
        refine Ev.congr (fun k => ?_) this
        rw [if_pos (by omega)]
      · rw [if_neg hp, Nat.add_zero] at this
        refine Ev.congr (fun k => ?_) this
        rw [if_neg (by omega)]

theorem tight_l1 (a1 : Int) (m l w c : Nat) (hl : l = 3 ∨ l = 7 ∨ l = 15) (hw : w < 2 ^ l) (hc : c = codeAt l w) 
    (next : Ev (fun k => plexuslaw23_BoundTight.l0 k a1 true m l ((codeAt l (w + 1) : Nat) : Int) ((leastAt (w + 1) : Nat) : Int) ((w + 1 : Nat) : Int)) true) :
    ∀ (n i : Nat), i + n = l → Ev (fun k => plexuslaw23_BoundTight.l1 k a1 true m l c ((leastAt w : Nat) : Int) w ((synd i w : Nat) : Int) i) true := by
  have hN : 2 ^ l ≤ 2 ^ 15 := Nat.pow_le_pow_right (n := 2) (by decide) (by omega)
  have hcw := codeAt_le l w
  intro n
  induction n with
  | zero =>
    intro i hi
    rw [Nat.add_zero] at hi
    subst hi
    have hs := codeAt_succ i w
    by_cases h0 : synd i w = 0
    · rw [if_pos h0] at hs
      rw [hs] at next
      by_cases hw0 : 0 < w
      · refine Ev.step (f := fun k => (plexusref23_Weight.f k (w : Int)).bind fun t428 => plexuslaw23_BoundTight.l0 k a1 true m i ((c + 1 : Nat) : Int) (mn ((leastAt w : Nat) : Int) t428) ((w + 1 : Nat) : Int)) (fun k => ?_) ?_
        · simp only [plexuslaw23_BoundTight.l1]
          rw [if_neg (by omega), if_pos (by omega), if_pos (by omega), w64 (x := (c : Int) + 1) (by omega) (by omega), w64 (x := (w : Int) + 1) (by omega) (by omega)]
          rfl
        · refine Ev.bind (weight_f w (by omega)) ?_
          have h3 := three_ones hl hw hw0 h0
          have h7 : 7 ≤ w := by
            rcases Nat.lt_or_ge w 7 with h | h
            · have := small_ones w h; omega
            · exact h
          have e : mn ((leastAt w : Nat) : Int) ((pop 16 w : Nat) : Int) = ((leastAt (w + 1) : Nat) : Int) := by
            unfold mn leastAt
            rcases Nat.eq_or_lt_of_le h7 with h | h
            · subst h
              rw [seven_ones]
              decide
            · rw [if_neg (show ¬ w ≤ 7 by omega), if_neg (show ¬ w + 1 ≤ 7 by omega), if_neg (by omega)]
          rw [e, hc]
          exact next
      · have : w = 0 := by omega
        subst this
        refine Ev.step (f := fun k => plexuslaw23_BoundTight.l0 k a1 true m i ((c + 1 : Nat) : Int) ((leastAt 1 : Nat) : Int) ((0 + 1 : Nat) : Int)) (fun k => ?_) (by rw [hc]; exact next)
        simp only [plexuslaw23_BoundTight.l1]
        rw [if_neg (by omega), if_pos (by omega), if_neg (by omega), w64 (x := (c : Int) + 1) (by omega) (by omega), w64 (x := ((0 : Nat) : Int) + 1) (by omega) (by omega)]
        rfl
    · rw [if_neg h0, Nat.add_zero] at hs
      rw [hs] at next
      have h7 : w ≠ 7 := fun h => h0 (by subst h; exact seven_synd hl)
      have e : leastAt (w + 1) = leastAt w := by
        unfold leastAt
        by_cases h : w ≤ 7
        · rw [if_pos (by omega), if_pos h]
        · rw [if_neg (by omega), if_neg h]
      rw [e] at next
      refine Ev.step (f := fun k => plexuslaw23_BoundTight.l0 k a1 true m i ((c : Nat) : Int) ((leastAt w : Nat) : Int) ((w + 1 : Nat) : Int)) (fun k => ?_) (by rw [hc]; exact next)
      simp only [plexuslaw23_BoundTight.l1]
      rw [if_neg (by omega), if_neg (by omega), w64 (x := (w : Int) + 1) (by omega) (by omega)]
      rfl
  | succ n ih =>
    intro i hi
    have := ih (i + 1) (by omega)
    have hlt := synd_lt i w (by omega)
    refine Ev.step (f := fun k => plexuslaw23_BoundTight.l1 k a1 true m l c ((leastAt w : Nat) : Int) w ((synd (i + 1) w : Nat) : Int) ((i + 1 : Nat) : Int)) (fun k => ?_) this
    simp only [plexuslaw23_BoundTight.l1]
    rw [if_pos (by omega), wu64 (x := (i : Int)) (by omega) (by omega), if_pos (by omega), tight_bit (by omega) (by omega), w64 (x := (i : Int) + 1) (by omega) (by omega)]
    by_cases hb : w / 2 ^ i % 2 = 1
    · rw [if_pos (by omega), show (i : Int) + 1 = ((i + 1 : Nat) : Int) by omega, xor_nat (by omega) (by omega), synd, if_pos hb]
    · rw [if_neg (by omega), synd, if_neg hb, Nat.xor_zero]
      rfl

theorem tight_l0 (a1 : Int) (m l : Nat) (hl : l = 3 ∨ l = 7 ∨ l = 15)
    (fin : Ev (fun k => plexuslaw23_BoundTight.l0 k a1 true m l ((codeAt l (2 ^ l) : Nat) : Int) ((leastAt (2 ^ l) : Nat) : Int) ((2 ^ l : Nat) : Int)) true) :
    ∀ (n w : Nat), w + n = 2 ^ l → Ev (fun k => plexuslaw23_BoundTight.l0 k a1 true m l ((codeAt l w : Nat) : Int) ((leastAt w : Nat) : Int) w) true := by
  intro n
  induction n with
  | zero => intro w hw; rw [Nat.add_zero] at hw; subst hw; exact fin
  | succ n ih =>
    intro w hw
    refine Ev.step (f := fun k => plexuslaw23_BoundTight.l1 k a1 true m l ((codeAt l w : Nat) : Int) ((leastAt w : Nat) : Int) w ((synd 0 w : Nat) : Int) (0 : Nat)) (fun k => ?_) (tight_l1 a1 m l w _ hl (by omega) rfl (ih (w + 1) (by omega)) l 0 (by omega))
    simp only [plexuslaw23_BoundTight.l0, power_f l (by omega), Option.bind_some]
    rw [if_pos (by omega)]
    rfl

def lastB (x : Nat) : Bool := plexuslaw23_BoundTight.l2 61 true x ((2 ^ (x - 1) : Nat) : Int) ((2 ^ x : Nat) : Int) == some true
theorem last_all : ((List.range 17).all fun x => !(decide (2 ≤ x)) || lastB x) = true := by kernel_rfl
theorem tight_second (x : Nat) (h2 : 2 ≤ x) (h16 : x ≤ 16) : Ev (fun k => plexuslaw23_BoundTight.l2 k true x ((0 : Nat) : Int) ((0 : Nat) : Int)) true := by
  refine tight_l2 x h2 h16 ?_ (2 ^ x) 0 (by omega)
  have := List.all_eq_true.1 last_all x (List.mem_range.2 (by omega))
  rw [decide_eq_true h2] at this
  simp only [Bool.not_true, Bool.false_or, lastB, beq_iff_eq] at this
  rw [show evenAt (2 ^ x) = 2 ^ (x - 1) by
    rw [show 2 ^ x = 2 * 2 ^ (x - 1) by rw [← Nat.pow_succ']; congr 1; omega]; exact evenAt_two _]
  exact Ev.of (fun k => (plexuslaw23_BoundTight.mono_l k).2.2 _ _ _ _) this
theorem tight_exs : Ev (fun k => plexuslaw23_examples.f k) true := Ev.of (fun k => plexuslaw23_examples.mono k) (show plexuslaw23_examples.f 100 = some true by kernel_rfl)
theorem tight_u8 {a : Int} (h : (Lit.int .u8 a).wf = true) : ∃ n : Nat, a = n ∧ n < 256 := by
  simp [Lit.wf, IntKind.min, IntKind.max, IntKind.signed, IntKind.bits] at h
  exact ⟨a.toNat, by omega, by omega⟩

theorem tight_fin (B m l : Nat) (hB : B < 256) (hm : (m = 2 ∧ l = 3) ∨ (m = 3 ∧ l = 7) ∨ (m = 4 ∧ l = 15)) :
    Ev (fun k => plexuslaw23_BoundTight.l0 k B true m l ((codeAt l (2 ^ l) : Nat) : Int) ((leastAt (2 ^ l) : Nat) : Int) ((2 ^ l : Nat) : Int)) true := by
  have hX : wrap64 (2 + (Int.tmod (wrap64 (B : Int)) 15)) = ((2 + B % 15 : Nat) : Int) := by
    rw [w64 (x := (B : Int)) (by omega) (by omega), show (15 : Int) = ((15 : Nat) : Int) from rfl, show Int.tmod (B : Int) ((15 : Nat) : Int) = ((B % 15 : Nat) : Int) from rfl, w64 (by omega) (by omega)]
    simp
  have last := tight_second (2 + B % 15) (by omega) (by omega)
  have v1 : Ev (fun k => plexuslaw23_sphere.f k l 3) (((2 ^ (l - m) : Nat) : Int), 0) := by
    rcases hm with ⟨rfl, rfl⟩ | ⟨rfl, rfl⟩ | ⟨rfl, rfl⟩ <;> exact Ev.of (fun k => plexuslaw23_sphere.mono _ _ k) (k := 60) (by kernel_rfl)
  have v2 : Ev (fun k => plexuslaw23_best.f k l 3) (((2 ^ (l - m) : Nat) : Int), 0) := by
    rcases hm with ⟨rfl, rfl⟩ | ⟨rfl, rfl⟩ | ⟨rfl, rfl⟩ <;> exact Ev.of (fun k => plexuslaw23_best.mono _ _ k) (k := 60) (by kernel_rfl)
  have v3 : Ev (fun k => plexuslaw23_plotkin.f k l ((2 ^ (m - 1) : Nat) : Int)) (((2 ^ m : Nat) : Int), 0) := by
    rcases hm with ⟨rfl, rfl⟩ | ⟨rfl, rfl⟩ | ⟨rfl, rfl⟩ <;> exact Ev.of (fun k => plexuslaw23_plotkin.mono _ _ k) (k := 60) (by kernel_rfl)
  have v4 : Ev (fun k => plexuslaw23_griesmer.f k m ((2 ^ (m - 1) : Nat) : Int)) ((l : Int), 0) := by
    rcases hm with ⟨rfl, rfl⟩ | ⟨rfl, rfl⟩ | ⟨rfl, rfl⟩ <;> exact Ev.of (fun k => plexuslaw23_griesmer.mono _ _ k) (k := 60) (by kernel_rfl)
  have v5 : Ev (fun k => plexuslaw23_best.f k l ((2 ^ (m - 1) : Nat) : Int)) (((2 ^ m : Nat) : Int), 0) := by
    rcases hm with ⟨rfl, rfl⟩ | ⟨rfl, rfl⟩ | ⟨rfl, rfl⟩ <;> exact Ev.of (fun k => plexuslaw23_best.mono _ _ k) (k := 60) (by kernel_rfl)
  have hc : codeAt l (2 ^ l) = 2 ^ (l - m) := by
    unfold codeAt
    rw [cntS_eq]
    rcases hm with ⟨rfl, rfl⟩ | ⟨rfl, rfl⟩ | ⟨rfl, rfl⟩ <;> kernel_rfl
  have hle : leastAt (2 ^ l) = 3 := by
    rcases hm with ⟨rfl, rfl⟩ | ⟨rfl, rfl⟩ | ⟨rfl, rfl⟩ <;> decide
  have is_f : ∀ v : Int, plexuslaw23_is.f v = some (v, 0) := fun v => rfl
  have hm1 : wrap64 ((m : Int) - 1) = ((m - 1 : Nat) : Int) := by rw [w64 (by omega) (by omega)]; omega
  rw [hc, hle]
  refine Ev.step (f := fun k => (plexuslaw23_sphere.f k l 3).bind fun bt429 => (if (!(bt429.1 == ((2 ^ (l - m) : Nat) : Int)) || (!(bt429.2 == 0))) = true then (none) else ((plexuslaw23_best.f k l 3).bind fun bt433 => (if (!(bt433.1 == ((2 ^ (l - m) : Nat) : Int)) || (!(bt433.2 == 0))) = true then (none) else ((plexuslaw23_plotkin.f k l ((2 ^ (m - 1) : Nat) : Int)).bind fun bt438 => (if (!(bt438.1 == ((2 ^ m : Nat) : Int)) || (!(bt438.2 == 0))) = true then (none) else ((plexuslaw23_griesmer.f k m ((2 ^ (m - 1) : Nat) : Int)).bind fun bt444 => (if (!(bt444.1 == (l : Int)) || (!(bt444.2 == 0))) = true then (none) else ((plexuslaw23_best.f k l ((2 ^ (m - 1) : Nat) : Int)).bind fun bt449 => (if (!(bt449.1 == ((2 ^ m : Nat) : Int)) || (!(bt449.2 == 0))) = true then (none) else (plexuslaw23_BoundTight.l2 k true ((2 + B % 15 : Nat) : Int) ((0 : Nat) : Int) ((0 : Nat) : Int)))))))))))) (fun k => ?_) ?_
  · simp only [plexuslaw23_BoundTight.l0, power_f l (by omega), power_f m (by omega), power_f (m - 1) (by omega), Option.bind_some, is_f, hm1, hX]
    rw [if_neg (by omega), if_pos (by rfl)]
    rfl
  · refine Ev.bind v1 ?_
    simp only [beq_self_eq_true, Bool.not_true, Bool.or_false, if_false, Bool.false_eq_true]
    refine Ev.bind v2 ?_
    simp only [beq_self_eq_true, Bool.not_true, Bool.or_false, if_false, Bool.false_eq_true]
    refine Ev.bind v3 ?_
    simp only [beq_self_eq_true, Bool.not_true, Bool.or_false, if_false, Bool.false_eq_true]
    refine Ev.bind v4 ?_
    simp only [beq_self_eq_true, Bool.not_true, Bool.or_false, if_false, Bool.false_eq_true]
    refine Ev.bind v5 ?_
    simp only [beq_self_eq_true, Bool.not_true, Bool.or_false, if_false, Bool.false_eq_true]
    exact last

theorem BoundTight : plexuslaw23_BoundTight.Pure := by
  intro a b ha hb
  obtain ⟨A, rfl, hA⟩ := tight_u8 ha
  obtain ⟨B, rfl, hB⟩ := tight_u8 hb
  have hL : wrap64 (2 + (Int.tmod (wrap64 (A : Int)) 3)) = ((2 + A % 3 : Nat) : Int) := by
    rw [w64 (x := (A : Int)) (by omega) (by omega), show (3 : Int) = ((3 : Nat) : Int) from rfl, show Int.tmod (A : Int) ((3 : Nat) : Int) = ((A % 3 : Nat) : Int) from rfl, w64 (by omega) (by omega)]
    simp
  obtain ⟨m, hm⟩ : ∃ m, m = 2 + A % 3 := ⟨_, rfl⟩
  rw [← hm] at hL
  have hml : ∃ l : Nat, ((m = 2 ∧ l = 3) ∨ (m = 3 ∧ l = 7) ∨ (m = 4 ∧ l = 15)) ∧ wrap64 (((2 ^ m : Nat) : Int) - 1) = (l : Int) := by
    have : m = 2 ∨ m = 3 ∨ m = 4 := by omega
    rcases this with h | h | h
    · exact ⟨(3 : Nat), by omega, by rw [h]; unfold wrap64; simp⟩
    · exact ⟨(7 : Nat), by omega, by rw [h]; unfold wrap64; simp⟩
    · exact ⟨(15 : Nat), by omega, by rw [h]; unfold wrap64; simp⟩
  obtain ⟨l, hl, hle⟩ := hml
  refine Ev.rounds (r := true) ?_
  unfold plexuslaw23_BoundTight.f
  refine Ev.bind tight_exs ?_
  simp only [if_true, hL, power_f m (by omega), Option.bind_some, hle]
  refine Ev.congr (fun k => rfl) (tight_l0 B m l (by omega) (tight_fin B m l hB hl) (2 ^ l) 0 (by omega))
end Go.Proofs.Ytcanekmlabehgaa.Pure
