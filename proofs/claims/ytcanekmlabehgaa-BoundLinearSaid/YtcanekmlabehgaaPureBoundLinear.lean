/- The law that the row states of plexus/plexuslaw23.BoundLinear: for every input the answer is true. Under no condition. -/
import Derived.Test.YtcanekmlabehgaaPx7
import Derived.Test.YtcanekmlabehgaaQLinear
import Derived.Test.YtcanekmlabehgaaQBest
namespace Go.Proofs.Ytcanekmlabehgaa.Pure
set_option linter.unusedVariables false
set_option linter.unusedSimpArgs false
open Go.RowKit Go.Proofs.Ytcanekmlabehgaa.P Go.Proofs.YtcanekmlabehgaaW.PrintWords Go.Proofs.YtcanekmlabehgaaW.PrintLast Go.Proofs.YtcanekmlabehgaaQ

theorem least_l1 (rows : List Nat) (i : Nat) (hi : i < rows.length) (hi2 : i < 100) (hr : rows[i] < 2 ^ 16) (ws : List Nat) (hne : ws ≠ []) (hws : ∀ x ∈ ws, x < 2 ^ 16) (hlen : ws.length ≤ 1024) {v : Int}
    (next : Ev (fun k => plexuslaw23_least.l0 k (ints rows) ((lw (ws ++ ws.map (· ^^^ rows[i])) : Nat) : Int) (ints (ws ++ ws.map (· ^^^ rows[i]))) ((i + 1 : Nat) : Int)) v) :
    ∀ (m j : Nat), j + m = ws.length → Ev (fun k => plexuslaw23_least.l1 k (ints rows) ((lw (ws ++ (ws.take j).map (· ^^^ rows[i])) : Nat) : Int) (ints (ws ++ (ws.take j).map (· ^^^ rows[i]))) i (ws.length : Int) j) v := by
  intro m
  induction m with
  | zero =>
    intro j hj
    rw [Nat.add_zero] at hj
    subst hj
    rw [List.take_length]
    refine Ev.step (f := fun k => plexuslaw23_least.l0 k (ints rows) ((lw (ws ++ ws.map (· ^^^ rows[i])) : Nat) : Int) (ints (ws ++ ws.map (· ^^^ rows[i]))) ((i + 1 : Nat) : Int)) (fun k => ?_) next
    simp only [plexuslaw23_least.l1]
    rw [if_neg (by omega), w64 (x := (i : Int) + 1) (by omega) (by omega)]
    rfl
  | succ m ih =>
    intro j hj
    have hjl : j < ws.length := by omega
    have hn := ih (j + 1) (by omega)
    have ht : (ws.take (j + 1)).map (· ^^^ rows[i]) = (ws.take j).map (· ^^^ rows[i]) ++ [ws[j] ^^^ rows[i]] := by
      rw [List.take_succ_eq_append_getElem hjl, List.map_append, List.map_singleton]
    rw [ht, ← List.append_assoc] at hn
    obtain ⟨V, hV⟩ : ∃ V, V = ws ++ (ws.take j).map (· ^^^ rows[i]) := ⟨_, rfl⟩
    rw [← hV] at hn ⊢
    have hVl : V.length = ws.length + j := by rw [hV]; simp; omega
    have hVj : rd (ints V) (j : Int) = (ws[j] : Int) := by
      rw [rd_ints V j (by omega)]
      subst hV
      rw [List.getElem_append_left hjl]
    obtain ⟨a, t, e⟩ : ∃ a t, V = a :: t := by
      cases hV2 : V with
      | nil => rw [hV2] at hVl; simp at hVl; omega
      | cons a t => exact ⟨a, t, rfl⟩
    have hx := hws _ (List.getElem_mem hjl)
    have hxy : ws[j] ^^^ rows[i] < 2 ^ 16 := Nat.xor_lt_two_pow hx hr
    have hl := lw_snoc a t (ws[j] ^^^ rows[i])
    rw [← e] at hl
    rw [hl] at hn
    refine Ev.step (f := fun k => (plexusref23_Weight.f k ((ws[j] ^^^ rows[i] : Nat) : Int)).bind fun t305 => plexuslaw23_least.l1 k (ints rows) (if V.length = 1 then t305 else if t305 < ((lw V : Nat) : Int) then t305 else ((lw V : Nat) : Int)) (ints (V ++ [ws[j] ^^^ rows[i]])) i (ws.length : Int) ((j + 1 : Nat) : Int)) (fun k => ?_) ?_
    · simp only [plexuslaw23_least.l1]
      rw [if_pos (by omega), if_pos (by omega), if_pos (by rw [ints_len]; omega), if_pos (by omega), if_pos (by rw [ints_len]; omega), hVj, rd_ints rows i hi, xor_nat (by omega) (by omega), w64 (x := (j : Int) + 1) (by omega) (by omega), ints_len]
      congr 1
      funext t
      rw [← ints_snoc]
      by_cases h1 : V.length = 1
      · rw [if_pos (by omega), if_pos (by omega), if_pos h1]; rfl
      · rw [if_neg (by omega), if_neg h1]
        by_cases h2 : t < ((lw V : Nat) : Int)
        · rw [if_pos h2, if_pos (by omega), if_pos h2]; rfl
        · rw [if_neg h2, if_pos (by omega), if_neg h2]; rfl
    · refine Ev.bind (weight_f _ hxy) ?_
      refine Ev.congr (fun k => ?_) hn
      congr 1
      by_cases h1 : V.length = 1
      · rw [if_pos h1, if_pos h1]
      · rw [if_neg h1, if_neg h1]
        by_cases h2 : pop 16 (ws[j] ^^^ rows[i]) < lw V
        · rw [if_pos h2, if_pos (by omega)]
        · rw [if_neg h2, if_neg (by omega)]

theorem least_l0 (rows : List Nat) (hl : rows.length ≤ 8) (hr : ∀ x ∈ rows, x < 2 ^ 16) : ∀ (m i : Nat) (ws : List Nat), i + m = rows.length → ws.length = 2 ^ i → (∀ x ∈ ws, x < 2 ^ 16) →
    Ev (fun k => plexuslaw23_least.l0 k (ints rows) ((lw ws : Nat) : Int) (ints ws) i) ((lw (grow ws (rows.drop i)) : Nat) : Int) := by
  intro m
  induction m with
  | zero =>
    intro i ws hi hw hlt
    rw [List.drop_eq_nil_of_le (by omega), grow]
    refine Ev.step (f := fun k => some _) (fun k => ?_) (Ev.now _)
    simp only [plexuslaw23_least.l0]
    rw [if_neg (by rw [ints_len]; omega)]
  | succ m ih =>
    intro i ws hi hw hlt
    have hil : i < rows.length := by omega
    have h2 : 2 ^ i ≤ 2 ^ 8 := Nat.pow_le_pow_right (by decide) (by omega)
    have hpos : 0 < 2 ^ i := Nat.pow_pos (by decide)
    have hri := hr _ (List.getElem_mem hil)
    rw [List.drop_eq_getElem_cons hil, grow]
    have hn := ih (i + 1) (ws ++ ws.map (· ^^^ rows[i])) (by omega) (by rw [List.length_append, List.length_map, Nat.pow_succ]; omega) (fun x hx => by
      rcases List.mem_append.1 hx with hx | hx
      · exact hlt x hx
      · obtain ⟨y, hy, rfl⟩ := List.mem_map.1 hx
        exact Nat.xor_lt_two_pow (hlt y hy) hri)
    refine Ev.step (f := fun k => plexuslaw23_least.l1 k (ints rows) ((lw ws : Nat) : Int) (ints ws) i (ws.length : Int) (0 : Nat)) (fun k => ?_) ?_
    · simp only [plexuslaw23_least.l0]
      rw [if_pos (by rw [ints_len]; omega), ints_len]
      rfl
    · have := least_l1 rows i hil (by omega) hri ws (by intro e; subst e; simp at hw; omega) hlt (by omega) hn ws.length 0 (by omega)
      simp only [List.take_zero, List.map_nil, List.append_nil] at this
      exact this
theorem least_f (rows : List Nat) (hl : rows.length ≤ 8) (hr : ∀ x ∈ rows, x < 2 ^ 16) : Ev (fun k => plexuslaw23_least.f k (ints rows)) ((lw (grow [0] rows) : Nat) : Int) :=
  least_l0 rows hl hr rows.length 0 [0] (by omega) rfl (fun x hx => by rw [List.mem_singleton.1 hx]; decide)

def grB (k d : Nat) : Bool := plexuslaw23_griesmer.f 60 k d == some ((gsum k d : Int), 0)
theorem gr_all : ((List.range 9).all fun k => (List.range 17).all fun d => !(decide (1 ≤ k) && decide (1 ≤ d)) || grB k d) = true := by kernel_rfl
theorem gr_f {k d : Nat} (h1 : 1 ≤ k) (h8 : k ≤ 8) (hd : 1 ≤ d) (h16 : d ≤ 16) : Ev (fun j => plexuslaw23_griesmer.f j k d) ((gsum k d : Int), 0) := by
  have := List.all_eq_true.1 (List.all_eq_true.1 gr_all k (List.mem_range.2 (by omega))) d (List.mem_range.2 (by omega))
  rw [decide_eq_true h1, decide_eq_true hd] at this
  simp only [Bool.and_self, Bool.not_true, Bool.false_or, grB, beq_iff_eq] at this
  exact Ev.of (fun k => plexuslaw23_griesmer.mono _ _ k) this

theorem linear_j2 (n : Nat) (hn1 : 1 ≤ n) (hn : n ≤ 16) (rows : List Nat) (hl : rows.length ≤ 7) (hr : ∀ x ∈ rows, x < 2 ^ n) (h : rows = [] ∨ 0 < lw (grow [0] rows)) :
    Ev (fun k => plexuslaw23_BoundLinear.j2 k true n (ints rows)) true := by
  by_cases h0 : rows.length = 0
  · refine Ev.step (f := fun k => some true) (fun k => ?_) (Ev.now _)
    simp only [plexuslaw23_BoundLinear.j2]
    rw [if_pos (by rw [ints_len]; omega)]
  have hpos : 0 < lw (grow [0] rows) := by
    rcases h with h | h
    · subst h; exact absurd rfl h0
    · exact h
  obtain ⟨hcode, hg, hdn, hlen⟩ := span_code hn hr hpos
  have hN : 2 ^ n ≤ 2 ^ 16 := Nat.pow_le_pow_right (by decide) hn
  have hle := least_f rows (by omega) (fun x hx => Nat.lt_of_lt_of_le (hr x hx) hN)
  obtain ⟨v1, v2, v3, v4⟩ := four_vals (n := n) (d := lw (grow [0] rows)) hpos hdn hn
  have hgr := gr_f (k := rows.length) (d := lw (grow [0] rows)) (by omega) (by omega) hpos (by omega)
  have c1 := hcode.sph hpos
  have c4 := hcode.bst hpos hdn
  rw [hlen] at c1 c4
  generalize lw (grow [0] rows) = d at *
  refine Ev.step (f := fun k => ((plexuslaw23_least.f k (ints rows)).bind fun t334 => ((plexuslaw23_griesmer.f k (rows.length : Int) t334).bind fun bt335 => ((if bt335.2 = 0 then (if bt335.1 ≤ (n : Int) then ((plexuslaw23_best.f k n t334).bind fun bt339 => ((plexuslaw23_below.f ((2 ^ rows.length : Nat) : Int) bt339.1 bt339.2).bind fun t341 => (if t341 = true then ((plexuslaw23_sphere.f k n t334).bind fun bt343 => ((plexuslaw23_below.f ((2 ^ rows.length : Nat) : Int) bt343.1 bt343.2).bind fun t345 => (some t345))) else (none)))) else (none)) else (none)))))) (fun k => ?_) ?_
  · simp only [plexuslaw23_BoundLinear.j2]
    rw [if_neg (by rw [ints_len]; omega), ints_len]
    simp only [power_f rows.length (by omega), Option.bind_some, if_true]
  · refine Ev.bind hle ?_
    refine Ev.bind hgr ?_
    refine Ev.congr (f := fun k => ((plexuslaw23_best.f k n (d : Int)).bind fun bt339 => ((plexuslaw23_below.f ((2 ^ rows.length : Nat) : Int) bt339.1 bt339.2).bind fun t341 => (if t341 = true then ((plexuslaw23_sphere.f k n (d : Int)).bind fun bt343 => ((plexuslaw23_below.f ((2 ^ rows.length : Nat) : Int) bt343.1 bt343.2).bind fun t345 => (some t345))) else (none))))) (fun k => by rw [if_pos rfl, if_pos (by omega)]) ?_
    refine Ev.bind v4 ?_
    have b4 : plexuslaw23_below.f ((2 ^ rows.length : Nat) : Int) (bst n d : Int) 0 = some true := by
      unfold plexuslaw23_below.f
      rw [if_pos rfl, decide_eq_true (Int.ofNat_le.2 c4)]
    have b1 : plexuslaw23_below.f ((2 ^ rows.length : Nat) : Int) (sph n d : Int) 0 = some true := by
      unfold plexuslaw23_below.f
      rw [if_pos rfl, decide_eq_true (Int.ofNat_le.2 c1)]
    simp only [b4, Option.bind_some, if_true]
    refine Ev.bind v1 ?_
    simp only [b1, Option.bind_some]
    exact Ev.now _

theorem linear_l0 (xs : List Int) (hxs : xs.length * 2 ≤ 140737488351232) (hwf : ∀ x ∈ xs, (Lit.int .u16 x).wf = true) (n : Nat) (hn1 : 1 ≤ n) (hn : n ≤ 16) :
    ∀ (m i : Nat) (rows : List Nat), i + m = xs.length → rows.length ≤ 7 → (∀ x ∈ rows, x < 2 ^ n) → (rows = [] ∨ 0 < lw (grow [0] rows)) →
      Ev (fun k => plexuslaw23_BoundLinear.l0 k xs true n (ints rows) i) true := by
  have hN : 2 ^ n ≤ 2 ^ 16 := Nat.pow_le_pow_right (by decide) hn
  have hpos : 0 < 2 ^ n := Nat.pow_pos (by decide)
  intro m
  induction m with
  | zero =>
    intro i rows hi hl hr h
    refine Ev.step (f := fun k => plexuslaw23_BoundLinear.j1 k xs true n (ints rows) i false) (fun k => ?_) (Ev.step (f := fun k => plexuslaw23_BoundLinear.j2 k true n (ints rows)) (fun k => ?_) (linear_j2 n hn1 hn rows hl hr h))
    · simp only [plexuslaw23_BoundLinear.l0]
      rw [if_neg (by omega)]
    · simp only [plexuslaw23_BoundLinear.j1]
      rw [if_neg (by decide)]
  | succ m ih =>
    intro i rows hi hl hr h
    refine Ev.step (f := fun k => plexuslaw23_BoundLinear.j1 k xs true n (ints rows) i (decide ((rows.length : Int) < 7))) (fun k => ?_) ?_
    · simp only [plexuslaw23_BoundLinear.l0]
      rw [if_pos (by omega), ints_len]
    by_cases h7 : rows.length < 7
    · rw [decide_eq_true (show (rows.length : Int) < 7 by omega)]
      have hil : i < xs.length := by omega
      obtain ⟨A, hA, hA2⟩ : ∃ A : Nat, rd xs (i : Int) = A ∧ A < 65536 := by
        have hw := hwf _ (List.getElem_mem hil)
        have hrd : rd xs (i : Int) = xs[i] := by simp [rd, hil]
        rw [hrd]
        simp [Lit.wf, IntKind.min, IntKind.max, IntKind.signed, IntKind.bits] at hw
        exact ⟨xs[i].toNat, by omega, by omega⟩
      have hmod : Int.tmod (wrap64 (rd xs (i : Int))) ((2 ^ n : Nat) : Int) = ((A % 2 ^ n : Nat) : Int) := by
        rw [hA, w64 (by omega) (by omega)]
        rfl
      have hlt : A % 2 ^ n < 2 ^ n := Nat.mod_lt _ hpos
      generalize A % 2 ^ n = w at hmod hlt
      have hr2 : ∀ x ∈ rows ++ [w], x < 2 ^ n := fun x hx => by
        rcases List.mem_append.1 hx with hx | hx
        · exact hr x hx
        · rw [List.mem_singleton.1 hx]; exact hlt
      have hle := least_f (rows ++ [w]) (by simp; omega) (fun x hx => Nat.lt_of_lt_of_le (hr2 x hx) hN)
      refine Ev.step (f := fun k => (plexuslaw23_least.f k (ints (rows ++ [w]))).bind fun t330 => (if t330 > 0 then plexuslaw23_BoundLinear.l0 k xs true n (ints (rows ++ [w])) ((i + 1 : Nat) : Int) else plexuslaw23_BoundLinear.l0 k xs true n (ints rows) ((i + 1 : Nat) : Int))) (fun k => ?_) ?_
      · simp only [plexuslaw23_BoundLinear.j1]
        rw [if_pos trivial, if_pos (by omega), if_pos (by omega), power_f n hn]
        simp only [Option.bind_some]
        rw [if_neg (by omega), hmod, if_pos (by rw [ints_len]; simp; omega)]
        simp only [Option.bind_some, List.nil_append]
        rw [if_pos (by rw [ints_len]; omega), w64 (x := (i : Int) + 1) (by omega) (by omega), ← ints_snoc]
        congr 1
        funext t
        by_cases ht : t > 0
        · rw [if_pos ht, if_pos (by rw [ints_len]; omega), if_pos ht]; rfl
        · rw [if_neg ht, if_neg ht]; rfl
      · refine Ev.bind hle ?_
        by_cases hp : 0 < lw (grow [0] (rows ++ [w]))
        · refine Ev.congr (fun k => ?_) (ih (i + 1) (rows ++ [w]) (by omega) (by simp; omega) hr2 (Or.inr hp))
          rw [if_pos (by omega)]
        · refine Ev.congr (fun k => ?_) (ih (i + 1) rows (by omega) hl hr h)
          rw [if_neg (by omega)]
    · rw [decide_eq_false (show ¬ (rows.length : Int) < 7 by omega)]
      refine Ev.step (f := fun k => plexuslaw23_BoundLinear.j2 k true n (ints rows)) (fun k => ?_) (linear_j2 n hn1 hn rows hl hr h)
      simp only [plexuslaw23_BoundLinear.j1]
      rw [if_neg (by decide)]
theorem linear_exs : Ev (fun k => plexuslaw23_examples.f k) true := Ev.of (fun k => plexuslaw23_examples.mono k) (show plexuslaw23_examples.f 100 = some true by kernel_rfl)

theorem BoundLinear : plexuslaw23_BoundLinear.Pure := by
  intro a xs ha hxs
  obtain ⟨A, rfl, hA⟩ : ∃ n : Nat, a = n ∧ n < 256 := by
    simp [Lit.wf, IntKind.min, IntKind.max, IntKind.signed, IntKind.bits] at ha
    exact ⟨a.toNat, by omega, by omega⟩
  have hL : wrap64 (1 + (Int.tmod (wrap64 (A : Int)) 16)) = ((1 + A % 16 : Nat) : Int) := by
    rw [w64 (x := (A : Int)) (by omega) (by omega), show (16 : Int) = ((16 : Nat) : Int) from rfl, show Int.tmod (A : Int) ((16 : Nat) : Int) = ((A % 16 : Nat) : Int) from rfl, w64 (by omega) (by omega)]
    simp
  refine Ev.rounds (r := true) ?_
  unfold plexuslaw23_BoundLinear.f
  refine Ev.bind linear_exs ?_
  simp only [if_true, hL]
  exact linear_l0 xs hxs.1 hxs.2.2 (1 + A % 16) (by omega) (by omega) xs.length 0 [] (by omega) (by simp) (by simp) (Or.inl rfl)
end Go.Proofs.Ytcanekmlabehgaa.Pure
