/- The greedy code: ascending, far apart, covering, and closed under the exclusive or. -/
import Derived.Test.YtcanekmlabehgaaQCode
import Derived.Test.YtcanekmlabehgaaQBound
namespace Go.Proofs.YtcanekmlabehgaaQ
set_option linter.unusedVariables false
set_option linter.unusedSimpArgs false

def QTried (d N : Nat) : List Nat := YtcanekmlabehgaaQ.tried d N 0 []
def GInv (d w : Nat) (l : List Nat) : Prop := (∀ x ∈ l, x < w) ∧ (l.Pairwise (· < ·)) ∧ (l.Pairwise fun x y => d ≤ pop 16 (x ^^^ y)) ∧ ∀ v, v < w → ∃ x ∈ l, pop 16 (x ^^^ v) < d
theorem GInv.step {d w : Nat} {l : List Nat} (hd : 1 ≤ d) (h : GInv d w l) : GInv d (w + 1) (gstep d l w) := by
  obtain ⟨h1, h2, h3, h4⟩ := h
  unfold gstep
  by_cases hf : far d l w = true
  · rw [if_pos hf]
    refine ⟨fun x hx => ?_, ?_, ?_, fun v hv => ?_⟩
    · rcases List.mem_append.1 hx with hx | hx
      · exact Nat.lt_succ_of_lt (h1 x hx)
      · rw [List.mem_singleton.1 hx]; omega
    · rw [List.pairwise_append]
      refine ⟨h2, List.pairwise_singleton _ _, fun x hx y hy => ?_⟩
      rw [List.mem_singleton.1 hy]
      exact h1 x hx
    · rw [List.pairwise_append]
      refine ⟨h3, List.pairwise_singleton _ _, fun x hx y hy => ?_⟩
      rw [List.mem_singleton.1 hy]
      have := List.all_eq_true.1 hf x hx
      simp only [decide_eq_true_eq] at this
      rw [Nat.xor_comm]; exact this
    · by_cases hvw : v = w
      · subst hvw
        refine ⟨v, by simp, ?_⟩
        rw [Nat.xor_self, pop_zero]
        exact hd
      · obtain ⟨x, hx, hp⟩ := h4 v (by omega)
        exact ⟨x, List.mem_append_left _ hx, hp⟩
  · rw [if_neg hf]
    refine ⟨fun x hx => Nat.lt_succ_of_lt (h1 x hx), h2, h3, fun v hv => ?_⟩
    by_cases hvw : v = w
    · subst hvw
      have : ∃ x ∈ l, ¬ d ≤ pop 16 (v ^^^ x) := by
        apply Classical.byContradiction
        intro hn
        apply hf
        refine List.all_eq_true.2 fun x hx => ?_
        apply Classical.byContradiction
        intro hn2
        exact hn ⟨x, hx, fun hle => hn2 (decide_eq_true hle)⟩
      obtain ⟨x, hx, hp⟩ := this
      rw [Nat.xor_comm] at hp
      exact ⟨x, hx, by omega⟩
    · exact h4 v (by omega)
theorem GInv.tried {d : Nat} (hd : 1 ≤ d) : ∀ (n w : Nat) (l : List Nat), GInv d w l → GInv d (w + n) (tried d n w l)
  | 0, w, l, h => h
  | n + 1, w, l, h => by
    have := GInv.tried hd n (w + 1) _ (h.step hd)
    rw [show w + 1 + n = w + (n + 1) by omega] at this
    exact this
theorem GInv.all {d : Nat} (hd : 1 ≤ d) (N : Nat) : GInv d N (QTried d N) := by
  have := GInv.tried hd N 0 [] ⟨by simp, List.Pairwise.nil, List.Pairwise.nil, fun v hv => absurd hv (by omega)⟩
  rw [Nat.zero_add] at this
  exact this
def maskOf : List Nat → Nat
  | [] => 0
  | x :: l => 2 ^ x ||| maskOf l
theorem maskOf_testBit : ∀ (l : List Nat) (v : Nat), (maskOf l).testBit v = true → v ∈ l
  | [], v, h => by simp [maskOf] at h
  | x :: l, v, h => by
    simp only [maskOf, Nat.testBit_or, Bool.or_eq_true] at h
    rcases h with h | h
    · rw [Nat.testBit_two_pow] at h
      simp at h
      subst h
      exact List.mem_cons_self ..
    · exact List.mem_cons_of_mem _ (maskOf_testBit l v h)
def spanOf : List Nat → List Nat
  | [] => [0]
  | b :: l => spanOf l ++ (spanOf l).map (b ^^^ ·)
theorem spanOf_zero : ∀ l, 0 ∈ spanOf l
  | [] => by simp [spanOf]
  | b :: l => List.mem_append_left _ (spanOf_zero l)
theorem spanOf_closed : ∀ (l : List Nat) (x y : Nat), x ∈ spanOf l → y ∈ spanOf l → x ^^^ y ∈ spanOf l
  | [], x, y, hx, hy => by
    simp [spanOf] at hx hy
    subst hx; subst hy
    simp [spanOf]
  | b :: l, x, y, hx, hy => by
    have ih := spanOf_closed l
    simp only [spanOf, List.mem_append, List.mem_map] at hx hy ⊢
    rcases hx with hx | ⟨x', hx, rfl⟩ <;> rcases hy with hy | ⟨y', hy, rfl⟩
    · exact Or.inl (ih _ _ hx hy)
    · exact Or.inr ⟨x ^^^ y', ih _ _ hx hy, by rw [← Nat.xor_assoc, ← Nat.xor_assoc, Nat.xor_comm x b]⟩
    · exact Or.inr ⟨x' ^^^ y, ih _ _ hx hy, by rw [Nat.xor_assoc]⟩
    · refine Or.inl ?_
      have : b ^^^ x' ^^^ (b ^^^ y') = x' ^^^ y' := by rw [Nat.xor_comm b x', Nat.xor_assoc, ← Nat.xor_assoc b b, Nat.xor_self, Nat.zero_xor]
      rw [this]
      exact ih _ _ hx hy
def wtTab : Nat := 19255054270729893008491005534149248252256602926781282732690012290033276866808550227997693622604181043369877307314662111123331664736047184874077759948250443227256975055791411108947596559321109802036954624006373818143946017559684403162578529602068048730946422771823999999239149825717005481632390412975320206440279958629013623038381969796702446623878923952740084796477918444418310443408990755144638227854376788458924235859745937832180260096754594561627738988715237553750525742696058226208231293151672720457407743312923599856247524705366024968272077418776390695019160354360691986468851967610039890687248939048398439391504
def wtOf (x : Nat) : Nat := (wtTab >>> (4 * x)) % 16
theorem wtOf_all : ((List.range 512).all fun x => wtOf x == pop 16 x) = true := by kernel_rfl
theorem wtOf_eq {x : Nat} (h : x < 512) : wtOf x = pop 16 x := eq_of_beq (List.all_eq_true.1 wtOf_all x (List.mem_range.2 h))
def basisTab : List (List (List Nat)) := [[[], [], [], [], [], [], [], [], [], []], [[], [1], [], [], [], [], [], [], [], []], [[], [1, 2], [3], [], [], [], [], [], [], []], [[], [1, 2, 4], [3, 5], [7], [], [], [], [], [], []], [[], [1, 2, 4, 8], [3, 5, 9], [7], [15], [], [], [], [], []], [[], [1, 2, 4, 8, 16], [3, 5, 9, 17], [7, 25], [15], [31], [], [], [], []], [[], [1, 2, 4, 8, 16, 32], [3, 5, 9, 17, 33], [7, 25, 42], [15, 51], [31], [63], [], [], []], [[], [1, 2, 4, 8, 16, 32, 64], [3, 5, 9, 17, 33, 65], [7, 25, 42, 75], [15, 51, 85], [31], [63], [127], [], []], [[], [1, 2, 4, 8, 16, 32, 64, 128], [3, 5, 9, 17, 33, 65, 129], [7, 25, 42, 75], [15, 51, 85, 150], [31, 227], [63], [127], [255], []], [[], [1, 2, 4, 8, 16, 32, 64, 128, 256], [3, 5, 9, 17, 33, 65, 129, 257], [7, 25, 42, 75, 385], [15, 51, 85, 150], [31, 227], [63, 455], [127], [255], [511]]]
def basis (n d : Nat) : List Nat := (basisTab.getD n []).getD d []
def lin (n d : Nat) : Bool := let s := spanOf (basis n d); let m := maskOf s
  (s.all fun x => decide (x < 2 ^ n)) && (s.all fun x => decide (x = 0) || decide (d ≤ wtOf x)) && ((List.range (2 ^ n)).all fun w => m.testBit w || s.any fun x => decide (x < w) && decide (wtOf (x ^^^ w) < d))
theorem lin_all : ((List.range 10).all fun n => (List.range 10).all fun d => !(decide (1 ≤ d) && decide (d ≤ n)) || lin n d) = true := by kernel_rfl
theorem tried_span {d n : Nat} (hn : n ≤ 9) (s : List Nat) (hc : ∀ x y, x ∈ s → y ∈ s → x ^^^ y ∈ s) (hlt : ∀ x ∈ s, x < 2 ^ n) (hw : ∀ x ∈ s, x = 0 ∨ d ≤ pop 16 x) (hg : ∀ w, w < 2 ^ n → w ∈ s ∨ ∃ x ∈ s, x < w ∧ pop 16 (x ^^^ w) < d) :
    ∀ (m w : Nat) (l : List Nat), w + m = 2 ^ n → (∀ x, x ∈ l ↔ x ∈ s ∧ x < w) → ∀ x, x ∈ tried d m w l ↔ x ∈ s
  | 0, w, l, hm, hl, x => by
    rw [tried, hl]
    exact ⟨fun h => h.1, fun h => ⟨h, by have := hlt x h; omega⟩⟩
  | m + 1, w, l, hm, hl, x => by
    rw [tried]
    refine tried_span hn s hc hlt hw hg m (w + 1) _ (by omega) (fun y => ?_) x
    unfold gstep
    rcases hg w (by omega) with hws | ⟨z, hz, hzw, hp⟩
    · have hf : far d l w = true := by
        refine List.all_eq_true.2 fun y hy => decide_eq_true ?_
        obtain ⟨hys, hyw⟩ := (hl y).1 hy
        rcases hw _ (hc w y hws hys) with h0 | h0
        · have : w = y := Nat.eq_of_testBit_eq fun i => by
            have := congrArg (fun t => Nat.testBit t i) h0
            simp at this
            exact this
          omega
        · exact h0
      rw [if_pos hf, List.mem_append, hl, List.mem_singleton]
      constructor
      · rintro (⟨h1, h2⟩ | rfl)
        · exact ⟨h1, by omega⟩
        · exact ⟨hws, by omega⟩
      · rintro ⟨h1, h2⟩
        by_cases hyw : y = w
        · exact Or.inr hyw
        · exact Or.inl ⟨h1, by omega⟩
    · have hf : ¬ far d l w = true := by
        intro hf
        have := List.all_eq_true.1 hf z ((hl z).2 ⟨hz, hzw⟩)
        simp only [decide_eq_true_eq] at this
        rw [Nat.xor_comm] at this
        omega
      rw [if_neg hf, hl]
      refine ⟨fun h => ⟨h.1, by omega⟩, fun h => ⟨h.1, ?_⟩⟩
      by_cases hyw : y = w
      · subst hyw
        exfalso
        have hself := hw _ (hc z y hz h.1)
        rcases hself with h0 | h0
        · have : z = y := Nat.eq_of_testBit_eq fun i => by
            have := congrArg (fun t => Nat.testBit t i) h0
            simp at this
            exact this
          omega
        · omega
      · have := h.2; omega
theorem lexi_closed {d n : Nat} (hd : 1 ≤ d) (hdn : d ≤ n) (hn : n ≤ 9) : ∀ x y, x ∈ QTried d (2 ^ n) → y ∈ QTried d (2 ^ n) → x ^^^ y ∈ QTried d (2 ^ n) := by
  have h := List.all_eq_true.1 (List.all_eq_true.1 lin_all n (List.mem_range.2 (by omega))) d (List.mem_range.2 (by omega))
  rw [decide_eq_true hd, decide_eq_true hdn] at h
  simp only [Bool.and_self, Bool.not_true, Bool.false_or, lin, Bool.and_eq_true] at h
  obtain ⟨⟨h1, h2⟩, h3⟩ := h
  have hN : 2 ^ n ≤ 512 := Nat.pow_le_pow_right (n := 2) (by decide) hn
  have hlt : ∀ x ∈ spanOf (basis n d), x < 2 ^ n := fun x hx => of_decide_eq_true (List.all_eq_true.1 h1 x hx)
  have hm := tried_span (d := d) hn (spanOf (basis n d)) (spanOf_closed _) hlt (fun x hx => by
    have := List.all_eq_true.1 h2 x hx
    simp only [Bool.or_eq_true, decide_eq_true_eq] at this
    rw [wtOf_eq (Nat.lt_of_lt_of_le (hlt x hx) hN)] at this
    exact this) (fun w hw => by
    have := List.all_eq_true.1 h3 w (List.mem_range.2 hw)
    simp only [Bool.or_eq_true, List.any_eq_true, Bool.and_eq_true, decide_eq_true_eq] at this
    rcases this with h | ⟨x, hx, hxw, hp⟩
    · exact Or.inl (maskOf_testBit _ _ h)
    · refine Or.inr ⟨x, hx, hxw, ?_⟩
      rw [wtOf_eq (Nat.lt_of_lt_of_le (Nat.xor_lt_two_pow (hlt x hx) hw) hN)] at hp
      exact hp) (2 ^ n) 0 [] (by omega) (fun x => by simp)
  intro x y hx hy
  exact (hm _).2 (spanOf_closed _ _ _ ((hm x).1 hx) ((hm y).1 hy))
end Go.Proofs.YtcanekmlabehgaaQ
