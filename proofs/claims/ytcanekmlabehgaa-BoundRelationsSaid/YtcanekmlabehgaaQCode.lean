/- Sets of binary words: the bounds of Singleton, Hamming and Plotkin, and how they pass from one length to another. In plain lists of numbers. -/
import Derived.Test.YtcanekmlabehgaaQBits
namespace Go.Proofs.YtcanekmlabehgaaQ
set_option linter.unusedVariables false
set_option linter.unusedSimpArgs false

/-! ### numbers of bits -/
theorem xor_mod (x y : Nat) : (x ^^^ y) % 2 = (x % 2 + y % 2) % 2 := by
  have h := @Nat.xor_mod_two_eq_one x y
  have h1 : (x ^^^ y) % 2 = 0 ∨ (x ^^^ y) % 2 = 1 := by omega
  have h2 : x % 2 = 0 ∨ x % 2 = 1 := by omega
  have h3 : y % 2 = 0 ∨ y % 2 = 1 := by omega
  rcases h1 with h1 | h1 <;> rcases h2 with h2 | h2 <;> rcases h3 with h3 | h3 <;> simp_all
theorem xor_div (x y : Nat) : (x ^^^ y) / 2 = x / 2 ^^^ y / 2 := Nat.xor_div_two
theorem pop_succ (n x : Nat) : pop (n + 1) x = x % 2 + pop n (x / 2) := rfl
theorem pop_zero (n : Nat) : pop n 0 = 0 := by
  induction n with
  | zero => rfl
  | succ n ih => rw [pop_succ, Nat.zero_div, ih]
theorem pop_pos {n x : Nat} (hx : x < 2 ^ n) (h : pop n x = 0) : x = 0 := by
  induction n generalizing x with
  | zero => simp at hx; exact hx
  | succ n ih =>
    rw [pop_succ] at h
    have h2 := ih (x := x / 2) (by rw [Nat.pow_succ] at hx; omega) (by omega)
    omega
theorem pop_more {n m x : Nat} (hx : x < 2 ^ n) (hm : n ≤ m) : pop m x = pop n x := by
  induction n generalizing m x with
  | zero =>
    have : x = 0 := by simpa using hx
    rw [this, pop_zero]
    rfl
  | succ n ih =>
    obtain ⟨m, rfl⟩ : ∃ k, m = k + 1 := ⟨m - 1, by omega⟩
    rw [pop_succ, pop_succ, ih (by rw [Nat.pow_succ] at hx; omega) (by omega)]
theorem pop_xor_le (n : Nat) : ∀ x y, pop n (x ^^^ y) ≤ pop n x + pop n y := by
  induction n with
  | zero => intro x y; exact Nat.le_refl _
  | succ n ih =>
    intro x y
    have := ih (x / 2) (y / 2)
    rw [pop_succ, pop_succ, pop_succ, xor_mod, xor_div]
    omega
theorem pop_xor_parity (n : Nat) : ∀ x y, pop n (x ^^^ y) % 2 = (pop n x + pop n y) % 2 := by
  induction n with
  | zero => intro x y; rfl
  | succ n ih =>
    intro x y
    have := ih (x / 2) (y / 2)
    rw [pop_succ, pop_succ, pop_succ, xor_mod, xor_div]
    omega

/-- A set of words of length n, two of which are at a distance of at least d. -/
def WCode (n d : Nat) (l : List Nat) : Prop := (∀ x ∈ l, x < 2 ^ n) ∧ l.Pairwise fun x y => d ≤ pop n (x ^^^ y)

theorem WCode.nodup {n d : Nat} {l : List Nat} (h : WCode n d l) (hd : 1 ≤ d) : l.Nodup := by
  refine h.2.imp ?_
  rintro a b hab rfl
  rw [Nat.xor_self, pop_zero] at hab
  omega
theorem nodup_bound (N : Nat) (l : List Nat) (hn : l.Nodup) (hl : ∀ x ∈ l, x < N) : l.length ≤ N := by
  have := List.Nodup.length_le_of_subset hn (l₂ := List.range N) (fun x hx => List.mem_range.2 (hl x hx))
  simpa using this
theorem WCode.trivial_bound {n d : Nat} {l : List Nat} (h : WCode n d l) (hd : 1 ≤ d) : l.length ≤ 2 ^ n := nodup_bound _ _ (h.nodup hd) h.1

/-- One coordinate less. -/
theorem WCode.punctured {n d : Nat} {l : List Nat} (h : WCode (n + 1) (d + 1) l) : WCode n d (l.map (· / 2)) := by
  refine ⟨fun x hx => ?_, ?_⟩
  · obtain ⟨y, hy, rfl⟩ := List.mem_map.1 hx
    have := h.1 y hy
    rw [Nat.pow_succ] at this
    omega
  · rw [List.pairwise_map]
    refine h.2.imp ?_
    intro a b hab
    rw [pop_succ, xor_div] at hab
    have := xor_mod a b
    omega
/-- The words with the same last bit, one coordinate less. -/
theorem WCode.half {n d : Nat} {l : List Nat} (h : WCode (n + 1) d l) (p : Nat) : WCode n d ((l.filter fun x => decide (x % 2 = p)).map (· / 2)) := by
  refine ⟨fun x hx => ?_, ?_⟩
  · obtain ⟨y, hy, rfl⟩ := List.mem_map.1 hx
    have := h.1 y (List.mem_filter.1 hy).1
    rw [Nat.pow_succ] at this
    omega
  · rw [List.pairwise_map]
    have h2 : (l.filter fun x => decide (x % 2 = p)).Pairwise fun x y => d ≤ pop (n + 1) (x ^^^ y) := h.2.filter _
    rw [List.pairwise_iff_forall_sublist] at h2 ⊢
    intro a b hab
    have h3 := h2 hab
    have ha : a % 2 = p := by
      have := (List.mem_filter.1 (hab.subset (by simp : a ∈ [a, b]))).2
      simpa using this
    have hb : b % 2 = p := by
      have := (List.mem_filter.1 (hab.subset (by simp : b ∈ [a, b]))).2
      simpa using this
    rw [pop_succ, xor_div] at h3
    have := xor_mod a b
    omega
theorem filter_two (l : List Nat) : (l.filter fun x => decide (x % 2 = 0)).length + (l.filter fun x => decide (x % 2 = 1)).length = l.length := by
  induction l with
  | nil => rfl
  | cons a l ih =>
    have : a % 2 = 0 ∨ a % 2 = 1 := by omega
    rcases this with h | h <;> simp [List.filter_cons, h] <;> omega
theorem WCode.doubled {n d B : Nat} {l : List Nat} (h : WCode (n + 1) d l) (hB : ∀ m, WCode n d m → m.length ≤ B) : l.length ≤ 2 * B := by
  have h0 := hB _ (h.half 0)
  have h1 := hB _ (h.half 1)
  have := filter_two l
  simp only [List.length_map] at h0 h1
  omega
/-- A bit of parity behind each word. -/
theorem WCode.extended {n d : Nat} {l : List Nat} (h : WCode n d l) (hd : d % 2 = 1) : WCode (n + 1) (d + 1) (l.map fun x => 2 * x + pop n x % 2) := by
  refine ⟨fun x hx => ?_, ?_⟩
  · obtain ⟨y, hy, rfl⟩ := List.mem_map.1 hx
    have := h.1 y hy
    rw [Nat.pow_succ]
    omega
  · rw [List.pairwise_map]
    refine h.2.imp ?_
    intro a b hab
    have e1 : (2 * a + pop n a % 2) / 2 = a := by omega
    have e2 : (2 * b + pop n b % 2) / 2 = b := by omega
    rw [pop_succ, xor_div, e1, e2]
    have := xor_mod (2 * a + pop n a % 2) (2 * b + pop n b % 2)
    have := pop_xor_parity n a b
    omega

/-! ### Singleton -/
theorem WCode.singleton {d : Nat} : ∀ {n : Nat} {l : List Nat}, WCode (n + d) (d + 1) l → l.length ≤ 2 ^ n := by
  induction d with
  | zero => intro n l h; exact h.trivial_bound (by omega)
  | succ d ih =>
    intro n l h
    have h2 : WCode (n + d) (d + 1) (l.map (· / 2)) := WCode.punctured (n := n + d) (d := d + 1) h
    have := ih h2
    simpa using this

/-! ### Hamming -/
def vol : Nat → Nat → Nat
  | 0, _ => 1
  | n + 1, 0 => vol n 0
  | n + 1, t + 1 => vol n (t + 1) + vol n t
theorem countP_two (p : Nat → Bool) (N : Nat) : (List.range (2 * N)).countP p = (List.range N).countP (fun x => p (2 * x)) + (List.range N).countP (fun x => p (2 * x + 1)) := by
  induction N with
  | zero => rfl
  | succ N ih =>
    rw [show 2 * (N + 1) = 2 * N + 1 + 1 by omega, List.range_succ, List.range_succ, List.range_succ, List.countP_append, List.countP_append, List.countP_append, List.countP_append, ih]
    simp only [List.countP_singleton]
    omega
theorem vol_count (n : Nat) : ∀ t, (List.range (2 ^ n)).countP (fun x => decide (pop n x ≤ t)) = vol n t := by
  induction n with
  | zero => intro t; simp [vol, pop]
  | succ n ih =>
    intro t
    rw [Nat.pow_succ, Nat.mul_comm, countP_two]
    have e0 : ∀ x, pop (n + 1) (2 * x) = pop n x := fun x => by rw [pop_succ, show 2 * x % 2 = 0 by omega, show 2 * x / 2 = x by omega]; omega
    have e1 : ∀ x, pop (n + 1) (2 * x + 1) = pop n x + 1 := fun x => by rw [pop_succ, show (2 * x + 1) % 2 = 1 by omega, show (2 * x + 1) / 2 = x by omega]; omega
    simp only [e0, e1]
    cases t with
    | zero =>
      have : (List.range (2 ^ n)).countP (fun x => decide (pop n x + 1 ≤ 0)) = 0 := by
        rw [List.countP_eq_zero]
        intro x _
        simp
      rw [this, ih]
      rfl
    | succ t =>
      have : (List.range (2 ^ n)).countP (fun x => decide (pop n x + 1 ≤ t + 1)) = vol n t := by
        rw [← ih t]
        congr 1
        funext x
        simp
      rw [this, ih]
      rfl
theorem WCode.hamming {n t : Nat} {l : List Nat} (h : WCode n (2 * t + 1) l) : l.length * vol n t ≤ 2 ^ n := by
  have hE : ((List.range (2 ^ n)).filter fun x => decide (pop n x ≤ t)).length = vol n t := by rw [← List.countP_eq_length_filter, vol_count]
  have hlen : (l.flatMap fun x => ((List.range (2 ^ n)).filter fun x => decide (pop n x ≤ t)).map (x ^^^ ·)).length = l.length * vol n t := by
    rw [List.length_flatMap]
    simp only [List.length_map, hE]
    clear h hE
    induction l with
    | nil => simp
    | cons a l ih => simp only [List.map_cons, List.sum_cons, ih, List.length_cons, Nat.add_mul]; omega
  rw [← hlen]
  refine nodup_bound _ _ ?_ ?_
  · rw [List.Nodup, List.pairwise_flatMap]
    refine ⟨fun a _ => ?_, h.2.imp ?_⟩
    · rw [List.pairwise_map]
      have hnd : ((List.range (2 ^ n)).filter fun x => decide (pop n x ≤ t)).Pairwise (· ≠ ·) := List.Pairwise.filter _ List.nodup_range
      refine hnd.imp ?_
      intro x y hxy e
      apply hxy
      have : a ^^^ (a ^^^ x) = a ^^^ (a ^^^ y) := by rw [e]
      rw [← Nat.xor_assoc, ← Nat.xor_assoc, Nat.xor_self, Nat.zero_xor, Nat.zero_xor] at this
      exact this
    · intro a b hab u hu v hv e
      obtain ⟨x, hx, rfl⟩ := List.mem_map.1 hu
      obtain ⟨y, hy, rfl⟩ := List.mem_map.1 hv
      have hx2 := (List.mem_filter.1 hx).2
      have hy2 := (List.mem_filter.1 hy).2
      simp only [decide_eq_true_eq] at hx2 hy2
      have e2 : a ^^^ b = x ^^^ y := by
        have : (a ^^^ x) ^^^ (x ^^^ b) = (b ^^^ y) ^^^ (x ^^^ b) := by rw [e]
        rw [Nat.xor_assoc, ← Nat.xor_assoc x x b, Nat.xor_self, Nat.zero_xor] at this
        rw [this, Nat.xor_comm (b ^^^ y), Nat.xor_assoc, ← Nat.xor_assoc b b y, Nat.xor_self, Nat.zero_xor]
      have := pop_xor_le n x y
      rw [e2] at hab
      omega
  · intro u hu
    obtain ⟨a, ha, hu⟩ := List.mem_flatMap.1 hu
    obtain ⟨x, hx, rfl⟩ := List.mem_map.1 hu
    exact Nat.xor_lt_two_pow (h.1 a ha) (List.mem_range.1 (List.mem_filter.1 hx).1)

/-! ### Plotkin -/
def row (n x : Nat) (l : List Nat) : Nat := (l.map fun y => pop n (x ^^^ y)).sum
def tot (n : Nat) (l m : List Nat) : Nat := (l.map fun x => row n x m).sum
def odd (l : List Nat) : Nat := (l.filter fun x => decide (x % 2 = 1)).length
theorem odd_le (l : List Nat) : odd l ≤ l.length := List.length_filter_le _ _
theorem odd_cons (a : Nat) (l : List Nat) : odd (a :: l) = a % 2 + odd l := by
  have : a % 2 = 0 ∨ a % 2 = 1 := by omega
  rcases this with h | h <;> simp [odd, List.filter_cons, h] <;> omega
theorem row_bits (x : Nat) (m : List Nat) : (m.map fun y => (x ^^^ y) % 2).sum = (if x % 2 = 1 then m.length - odd m else odd m) := by
  induction m with
  | nil => simp [odd]
  | cons a m ih =>
    rw [List.map_cons, List.sum_cons, ih, odd_cons, xor_mod, List.length_cons]
    have := odd_le m
    split <;> omega
theorem tot_bits (l m : List Nat) : (l.map fun x => (m.map fun y => (x ^^^ y) % 2).sum).sum = odd l * (m.length - odd m) + (l.length - odd l) * odd m := by
  induction l with
  | nil => simp [odd]
  | cons a l ih =>
    rw [List.map_cons, List.sum_cons, ih, odd_cons, row_bits, List.length_cons]
    have h1 := odd_le l
    have : a % 2 = 0 ∨ a % 2 = 1 := by omega
    rcases this with h | h
    · rw [h, if_neg (by omega), show l.length + 1 - (0 + odd l) = (l.length - odd l) + 1 by omega, Nat.zero_add, Nat.add_mul]
      omega
    · rw [h, if_pos rfl, show l.length + 1 - (1 + odd l) = l.length - odd l by omega, Nat.add_mul]
      omega
theorem sum_add {α : Type} (l : List α) (f g : α → Nat) : (l.map fun x => f x + g x).sum = (l.map f).sum + (l.map g).sum := by
  induction l with
  | nil => rfl
  | cons a l ih => simp only [List.map_cons, List.sum_cons, ih]; omega
theorem tot_succ (n : Nat) (l m : List Nat) : tot (n + 1) l m = (l.map fun x => (m.map fun y => (x ^^^ y) % 2).sum).sum + tot n (l.map (· / 2)) (m.map (· / 2)) := by
  unfold tot row
  simp only [pop_succ, xor_div]
  rw [show (fun x => (m.map fun y => (x ^^^ y) % 2 + pop n (x / 2 ^^^ y / 2)).sum) = fun x => (m.map fun y => (x ^^^ y) % 2).sum + (m.map fun y => pop n (x / 2 ^^^ y / 2)).sum from funext fun x => sum_add _ _ _]
  rw [sum_add, List.map_map]
  simp only [Function.comp_def, List.map_map]
theorem four_mul (z w : Nat) : 4 * (z * w) ≤ (z + w) * (z + w) := by
  rcases Nat.le_total z w with h | h
  · obtain ⟨t, rfl⟩ := Nat.le.dest h
    simp only [Nat.mul_add, Nat.add_mul]
    have := Nat.mul_comm t z
    omega
  · obtain ⟨t, rfl⟩ := Nat.le.dest h
    simp only [Nat.mul_add, Nat.add_mul]
    have := Nat.mul_comm t w
    omega
theorem four_mul_odd (z w : Nat) (h : (z + w) % 2 = 1) : 4 * (z * w) + 1 ≤ (z + w) * (z + w) := by
  rcases Nat.le_total z w with h1 | h1
  · obtain ⟨t, rfl⟩ := Nat.le.dest h1
    have ht : 1 ≤ t * t := Nat.mul_pos (by omega) (by omega)
    simp only [Nat.mul_add, Nat.add_mul]
    have := Nat.mul_comm t z
    omega
  · obtain ⟨t, rfl⟩ := Nat.le.dest h1
    have ht : 1 ≤ t * t := Nat.mul_pos (by omega) (by omega)
    simp only [Nat.mul_add, Nat.add_mul]
    have := Nat.mul_comm t w
    omega
theorem tot_le (n : Nat) : ∀ l : List Nat, 2 * tot n l l ≤ n * (l.length * l.length) ∧ (l.length % 2 = 1 → 2 * tot n l l + n ≤ n * (l.length * l.length)) := by
  induction n with
  | zero =>
    intro l
    have h0 : tot 0 l l = 0 := by
      unfold tot row
      simp only [pop]
      have : ∀ m : List Nat, (m.map fun _ => 0).sum = 0 := fun m => by induction m <;> simp_all
      rw [this, this]
    rw [h0]
    exact ⟨by omega, fun _ => by omega⟩
  | succ n ih =>
    intro l
    obtain ⟨h1, h2⟩ := ih (l.map (· / 2))
    rw [List.length_map] at h1 h2
    rw [tot_succ, tot_bits, Nat.add_mul, Nat.one_mul]
    have h3 := odd_le l
    have h4 := four_mul (odd l) (l.length - odd l)
    rw [Nat.mul_comm (l.length - odd l) (odd l)]
    rw [show odd l + (l.length - odd l) = l.length by omega] at h4
    refine ⟨by omega, fun ho => ?_⟩
    have h5 := four_mul_odd (odd l) (l.length - odd l) (by omega)
    rw [show odd l + (l.length - odd l) = l.length by omega] at h5
    have := h2 ho
    omega
theorem row_ge {n d x : Nat} : ∀ {l : List Nat}, (∀ y ∈ l, d ≤ pop n (x ^^^ y)) → l.length * d ≤ row n x l
  | [], _ => by simp
  | a :: l, h => by
    have := row_ge (l := l) (fun y hy => h y (List.mem_cons_of_mem _ hy))
    have := h a List.mem_cons_self
    simp only [row, List.map_cons, List.sum_cons, List.length_cons, Nat.add_mul, Nat.one_mul]
    unfold row at *
    omega
theorem tot_cons (n a : Nat) (l : List Nat) : tot n (a :: l) (a :: l) = 2 * row n a l + tot n l l := by
  have h1 : row n a (a :: l) = row n a l := by simp [row, pop_zero]
  have h2 : ∀ m : List Nat, tot n m (a :: l) = row n a m + tot n m l := by
    intro m
    induction m with
    | nil => rfl
    | cons b m ih =>
      have e1 : tot n (b :: m) (a :: l) = row n b (a :: l) + tot n m (a :: l) := rfl
      have e2 : row n b (a :: l) = pop n (b ^^^ a) + row n b l := rfl
      have e3 : tot n (b :: m) l = row n b l + tot n m l := rfl
      have e4 : row n a (b :: m) = pop n (a ^^^ b) + row n a m := rfl
      rw [Nat.xor_comm b a] at e2
      omega
  have h3 : tot n (a :: l) (a :: l) = row n a (a :: l) + tot n l (a :: l) := rfl
  rw [h3, h1, h2]
  omega
theorem tot_ge {n d : Nat} : ∀ {l : List Nat}, (l.Pairwise fun x y => d ≤ pop n (x ^^^ y)) → l.length * (l.length - 1) * d ≤ tot n l l
  | [], _ => by simp
  | a :: l, h => by
    have h0 := List.pairwise_cons.1 h
    have h1 := tot_ge h0.2
    have h2 := row_ge h0.1
    rw [tot_cons]
    simp only [List.length_cons, Nat.add_sub_cancel]
    have : (l.length + 1) * l.length * d = 2 * (l.length * d) + l.length * (l.length - 1) * d := by
      cases l.length with
      | zero => simp
      | succ m =>
        simp only [Nat.add_sub_cancel, Nat.add_mul, Nat.mul_add, Nat.one_mul, Nat.mul_one]
        omega
    omega
theorem WCode.plotkin {n d : Nat} {l : List Nat} (h : WCode n d l) (hdn : d ≤ n) (hn : n < 2 * d) : l.length ≤ 2 * (d / (2 * d - n)) := by
  have h1 := tot_ge h.2
  obtain ⟨h2, h3⟩ := tot_le n l
  generalize l.length = M at *
  have hpos : 0 < 2 * d - n := by omega
  obtain ⟨e, he⟩ : ∃ e, n + e = 2 * d := ⟨2 * d - n, by omega⟩
  have hee : 2 * d - n = e := by omega
  rw [hee] at hpos ⊢
  rcases Nat.mod_two_eq_zero_or_one M with hM | hM
  · obtain ⟨m, rfl⟩ : ∃ m, M = 2 * m := ⟨M / 2, by omega⟩
    have key : m * e ≤ d := by
      cases m with
      | zero => simp
      | succ m =>
        have h4 : 2 * (2 * (m + 1) * (2 * (m + 1) - 1) * d) ≤ n * (2 * (m + 1) * (2 * (m + 1))) := by omega
        have h5 : (2 * (m + 1)) * ((2 * (m + 1) - 1) * (2 * d)) ≤ (2 * (m + 1)) * (n * (2 * (m + 1))) := by
          have e1 : (2 * (m + 1)) * ((2 * (m + 1) - 1) * (2 * d)) = 2 * (2 * (m + 1) * (2 * (m + 1) - 1) * d) := by
            rw [Nat.mul_assoc (2 * (m + 1)), Nat.mul_left_comm 2 (2 * (m + 1)), Nat.mul_left_comm (2 * (m + 1) - 1) 2 d]
          have e2 : (2 * (m + 1)) * (n * (2 * (m + 1))) = n * (2 * (m + 1) * (2 * (m + 1))) := by rw [Nat.mul_left_comm]
          rw [e1, e2]
          exact h4
        have h6 := Nat.le_of_mul_le_mul_left h5 (by omega)
        rw [show 2 * (m + 1) - 1 = 2 * m + 1 by omega, ← he] at h6
        simp only [Nat.mul_add, Nat.add_mul, Nat.one_mul, Nat.mul_one] at h6 ⊢
        have c1 : n * (2 * m) = 2 * m * n := Nat.mul_comm _ _
        have c2 : 2 * m * e = 2 * (m * e) := Nat.mul_assoc _ _ _
        omega
    have := (Nat.le_div_iff_mul_le hpos).2 key
    omega
  · obtain ⟨m, rfl⟩ : ∃ m, M = 2 * m + 1 := ⟨M / 2, by omega⟩
    have key : (m + 1) * e ≤ d := by
      have h4 := h3 hM
      have h5 : 2 * ((2 * m + 1) * (2 * m) * d) + n ≤ n * ((2 * m + 1) * (2 * m + 1)) := by
        have := h1
        simp only [Nat.add_sub_cancel] at this
        omega
      cases m with
      | zero =>
        rw [Nat.zero_add, Nat.one_mul]
        omega
      | succ m =>
        have e1 : 2 * ((2 * (m + 1) + 1) * (2 * (m + 1)) * d) = (2 * (m + 1)) * ((2 * (m + 1) + 1) * (2 * d)) := by
          rw [Nat.mul_comm (2 * (m + 1) + 1) (2 * (m + 1)), Nat.mul_assoc, Nat.mul_left_comm 2 (2 * (m + 1)), Nat.mul_left_comm 2 (2 * (m + 1) + 1)]
        have e2 : n * ((2 * (m + 1) + 1) * (2 * (m + 1) + 1)) = (2 * (m + 1)) * (n * (2 * (m + 1) + 2)) + n := by
          generalize 2 * (m + 1) = t
          have : (t + 1) * (t + 1) = t * (t + 2) + 1 := by
            simp only [Nat.mul_add, Nat.add_mul, Nat.one_mul, Nat.mul_one]
            omega
          rw [this, Nat.mul_add, Nat.mul_one, Nat.mul_left_comm]
        rw [e1, e2] at h5
        have h6 := Nat.le_of_mul_le_mul_left (show (2 * (m + 1)) * ((2 * (m + 1) + 1) * (2 * d)) ≤ (2 * (m + 1)) * (n * (2 * (m + 1) + 2)) by omega) (by omega)
        rw [← he] at h6
        simp only [Nat.mul_add, Nat.add_mul, Nat.one_mul, Nat.mul_one] at h6 ⊢
        have c1 : n * (2 * m) = 2 * m * n := Nat.mul_comm _ _
        have c2 : 2 * m * e = 2 * (m * e) := Nat.mul_assoc _ _ _
        omega
    have := (Nat.le_div_iff_mul_le hpos).2 key
    omega
theorem WCode.plotkin_even {n d : Nat} {l : List Nat} (h : WCode n d l) (hd : 1 ≤ d) (hn : n = 2 * d) : l.length ≤ 4 * d := by
  obtain ⟨m, rfl⟩ : ∃ m, n = m + 1 := ⟨n - 1, by omega⟩
  have := WCode.doubled (B := 2 * d) h (fun k hk => by
    have := hk.plotkin (by omega) (by omega)
    rwa [show 2 * d - m = 1 by omega, Nat.div_one] at this)
  omega
end Go.Proofs.YtcanekmlabehgaaQ
