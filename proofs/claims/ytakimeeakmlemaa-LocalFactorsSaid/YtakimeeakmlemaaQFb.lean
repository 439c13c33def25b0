/- LocalFactors: the plain law. -/
import Derived.Test.YtakimeeakmlemaaQFa
namespace Go.Proofs.YtakimeeakmlemaaQ
set_option linter.unusedVariables false
set_option linter.unusedSimpArgs false
open Go Go.RowKit Go.Proofs.Ytakimeeakmlemaa.P22 Go.Proofs.Ytakimeeakmlemaa.V22 Go.Proofs.YtakimeeakmlemaaW.PrintWords Go.Proofs.YtakimeeakmlemaaW.PrintLast Go.Proofs.YtakimeeakmlemaaW.PrintMore
theorem castL_get {l : LN} {i : Nat} (h : i < l.length) : List.getD (castL l) (Int.toNat (i : Int)) (Int.ofNat 0, Int.ofNat 0) = ((l[i].1 : Int), (l[i].2 : Int)) := by
  rw [Int.toNat_natCast, List.getD_eq_getElem?_getD, List.getElem?_eq_getElem (by rw [castL_len]; exact h)]
  simp [castL]
theorem take_succ' {l : LN} {i : Nat} (h : i < l.length) : l.take (i + 1) = l.take i ++ [l[i]] := by
  rw [List.take_add_one, List.getElem?_eq_getElem h]; rfl
theorem prod_mono {l : LN} (hp : ∀ x ∈ l, 1 ≤ x.1) : ∀ (m i : Nat), l.length - i = m → i ≤ l.length → prodL (l.take i) ≤ prodL l ∧ 1 ≤ prodL (l.take i)
  | 0, i, hm, hi => by
    have : i = l.length := by omega
    rw [this, List.take_length]
    refine ⟨Nat.le_refl _, ?_⟩
    have key : ∀ (l : LN) (a : Nat), 1 ≤ a → (∀ x ∈ l, 1 ≤ x.1) → 1 ≤ l.foldl (fun a x => a * x.1 ^ x.2) a := by
      intro l
      induction l with
      | nil => intro a ha _; exact ha
      | cons y l ih =>
        intro a ha hl
        exact ih _ (Nat.mul_pos ha (Nat.pow_pos (hl y (List.mem_cons_self ..)))) fun x hx => hl x (List.mem_cons_of_mem _ hx)
    exact key l 1 (Nat.le_refl 1) hp
  | m + 1, i, hm, hi => by
    have hlt : i < l.length := by omega
    obtain ⟨h1, h2⟩ := prod_mono hp m (i + 1) (by omega) (by omega)
    rw [take_succ' hlt, prodL_app] at h1 h2
    have hq := hp _ (List.getElem_mem hlt)
    have hpow : 1 ≤ l[i].1 ^ l[i].2 := Nat.pow_pos hq
    have h3 : prodL (l.take i) * 1 ≤ prodL (l.take i) * l[i].1 ^ l[i].2 := Nat.mul_le_mul_left _ hpow
    refine ⟨by omega, Nat.pos_of_ne_zero fun z => by rw [z] at h2; simp at h2⟩
section
variable {N : Nat} {l : LN} (hN : N ≤ 1000000) (hN1 : 1 ≤ N) (h : FL N l) (hlen : l.length ≤ 1000) (a1 : Int)
theorem in_loop {i : Nat} (hi : i < l.length) (b v : Bool) (n0 : Nat → Nat)
    (ho : Ev2 (fun n k => plexuslaw22_LocalFactors.l0 n k (N : Int) a1 true (castL l, 0) ((prodL (l.take (i + 1)) : Nat) : Int) (evenL (l.take (i + 1))) ((i + 1 : Nat) : Int)) v) (hN : N ≤ 1000000) (h : FL N l) (hlen : l.length ≤ 1000) :
    ∃ K, ∀ (m j : Nat), l[i].2 - j = m → j ≤ l[i].2 → ∀ n1 n k, K ≤ n → K ≤ k → m < n1 →
      plexuslaw22_LocalFactors.l1 n1 k n (N : Int) a1 true (castL l, 0) (evenL (l.take i)) (i : Int) ((prodL (l.take i) * l[i].1 ^ j : Nat) : Int) (j : Int) = some v := by
  obtain ⟨K, hK⟩ := ho
  refine ⟨K, ?_⟩
  obtain ⟨hP, e1, e20, hq⟩ := h.ent _ (List.getElem_mem hi)
  have hpos : ∀ x ∈ l, 1 ≤ x.1 := fun x hx => by have := (h.ent x hx).1.1; omega
  obtain ⟨pm, pm1⟩ := prod_mono hpos _ (i + 1) rfl (by omega)
  rw [take_succ' hi, prodL_app, ← h.prod] at pm
  have hg : List.getD (castL l) (Int.toNat (i : Int)) (Int.ofNat 0, Int.ofNat 0) = ((l[i].1 : Int), (l[i].2 : Int)) := castL_get hi
  have hcl : ((castL l).length : Int) = (l.length : Int) := by rw [castL_len]
  intro m
  induction m with
  | zero =>
    intro j hm hj n1 n k hn hk hn1
    obtain ⟨n1, rfl⟩ : ∃ x, n1 = x + 1 := ⟨n1 - 1, by omega⟩
    have ej : j = l[i].2 := by omega
    rw [plexuslaw22_LocalFactors.l1_succ]
    simp only [hg, hcl]
    rw [if_pos (by omega), if_pos (by omega), if_neg (dF (by omega))]
    have fin := hK n k hn hk
    have ei : IntKind.wrap IntKind.i64 ((i : Int) + 1) = ((i + 1 : Nat) : Int) := by rw [show (i : Int) + 1 = ((i + 1 : Nat) : Int) by omega, i64n (by omega)]
    have ed : (Go.Vx.divF BinOp.rem IntKind.i64 (l[i].2 : Int) 2 == 0) = (l[i].2 % 2 == 0) := by
      have := dvd_beq (n := l[i].2) (d := 2) (by decide)
      rw [show ((2 : Nat) : Int) = 2 from rfl] at this
      rw [this, Bool.eq_iff_iff, decide_eq_true_iff, beq_iff_eq]
      omega
    rw [take_succ' hi, evenL_app] at fin
    rw [prodL_app] at fin
    rw [ei, ej, ed]
    cases hev : evenL (l.take i) with
    | true =>
      rw [hev] at fin
      rw [if_pos rfl, if_pos (by omega), if_pos (by omega)]
      simpa using fin
    | false =>
      rw [hev] at fin
      rw [if_neg (by decide)]
      simpa using fin
  | succ m ih =>
    intro j hm hj n1 n k hn hk hn1
    obtain ⟨n1, rfl⟩ : ∃ x, n1 = x + 1 := ⟨n1 - 1, by omega⟩
    have hpw : prodL (l.take i) * l[i].1 ^ (j + 1) ≤ 1000000 := by
      have h1 : l[i].1 ^ (j + 1) ≤ l[i].1 ^ l[i].2 := Nat.pow_le_pow_right (by have := hP.1; omega) (by omega)
      have := Nat.mul_le_mul_left (prodL (l.take i)) h1
      omega
    have em : IntKind.wrap IntKind.i64 (((prodL (l.take i) * l[i].1 ^ j : Nat) : Int) * (l[i].1 : Int)) = ((prodL (l.take i) * l[i].1 ^ (j + 1) : Nat) : Int) := by
      rw [← Int.natCast_mul, Nat.mul_assoc, ← Nat.pow_succ, i64n (Nat.lt_of_le_of_lt hpw (by decide))]
    have ej : IntKind.wrap IntKind.i64 ((j : Int) + 1) = ((j + 1 : Nat) : Int) := by rw [show (j : Int) + 1 = ((j + 1 : Nat) : Int) by omega, i64n (by omega)]
    rw [plexuslaw22_LocalFactors.l1_succ]
    simp only [hg, hcl]
    rw [if_pos (by omega), if_pos (by omega), if_pos (dT (by omega)), if_pos (by omega), if_pos (by omega), em, ej]
    exact ih (j + 1) (by omega) (by omega) n1 n k hn hk (by omega)
theorem out_loop (hN : N ≤ 1000000) (hN1 : 1 ≤ N) (h : FL N l) (hlen : l.length ≤ 1000) (hfin : Ev (fun k => plexuslaw22_LocalFactors.j2 k a1 true) true) : ∀ (m i : Nat), l.length - i = m → i ≤ l.length →
    Ev2 (fun n k => plexuslaw22_LocalFactors.l0 n k (N : Int) a1 true (castL l, 0) ((prodL (l.take i) : Nat) : Int) (evenL (l.take i)) (i : Int)) true
  | 0, i, hm, hi => by
    have ei : i = l.length := by omega
    have hcl : ((castL l).length : Int) = (l.length : Int) := by rw [castL_len]
    refine Ev2.step (fun n k => plexuslaw22_LocalFactors.l0_succ n k _ _ _ _ _ _ _) (ev2F (dF (by show ¬ ((i : Int) < ((castL l).length : Int)); omega)) (ev2T (bT rfl) (ev2F (nF ?_) ?_)))
    · rw [ei, List.take_length, ← h.prod]
    · refine Ev2.of (Ev.bind (Square_e (by omega) (by omega)) (evF ?_ hfin))
      have : sqB (N : Int) = evenL (l.take i) := by
        rw [Bool.eq_iff_iff, sqB_iff, h.sq, ei, List.take_length]
      rw [this]
      cases evenL (l.take i) <;> decide
  | m + 1, i, hm, hi => by
    have hlt : i < l.length := by omega
    obtain ⟨hP, e1, e20, hq⟩ := h.ent _ (List.getElem_mem hlt)
    have ih := out_loop hN hN1 h hlen hfin m (i + 1) (by omega) (by omega)
    have hg : List.getD (castL l) (Int.toNat (i : Int)) (Int.ofNat 0, Int.ofNat 0) = ((l[i].1 : Int), (l[i].2 : Int)) := castL_get hlt
    have hcl : ((castL l).length : Int) = (l.length : Int) := by rw [castL_len]
    obtain ⟨K, hK⟩ := in_loop a1 hlt (evenL (l.take i)) true (fun x => x) ih hN h hlen
    have hj : Ev2 (fun n k => plexuslaw22_LocalFactors.j1 k n (N : Int) a1 true (castL l, 0) ((prodL (l.take i) : Nat) : Int) (evenL (l.take i)) (i : Int)) true := by
      refine ⟨K + 30, fun n k hn hk => ?_⟩
      show plexuslaw22_LocalFactors.j1 k n (N : Int) a1 true (castL l, 0) ((prodL (l.take i) : Nat) : Int) (evenL (l.take i)) (i : Int) = some true
      rw [plexuslaw22_LocalFactors.j1_eq]
      have := hK _ 0 rfl (by omega) k n k (by omega) (by omega) (by omega)
      simpa using this
    refine Ev2.step (fun n k => plexuslaw22_LocalFactors.l0_succ n k _ _ _ _ _ _ _) ?_
    simp only [hg, hcl]
    refine ev2T (dT (by omega)) (ev2T (by omega) (ev2T (by omega) (ev2F (dF (by omega)) (ev2T (by omega) (ev2T (by omega) (ev2F (dF (by omega)) (ev2T (by omega) (ev2T (by omega) (Ev2.bind (rprime_e hP hq) (ev2F (by decide) ?_))))))))))
    by_cases h0 : i = 0
    · exact ev2F (dF (by omega)) hj
    · have hlt' : i - 1 < l.length := by omega
      have em : IntKind.wrap IntKind.i64 ((i : Int) - 1) = ((i - 1 : Nat) : Int) := by rw [show (i : Int) - 1 = ((i - 1 : Nat) : Int) by omega, i64n (by omega)]
      have hg' : List.getD (castL l) (Int.toNat ((i - 1 : Nat) : Int)) (Int.ofNat 0, Int.ofNat 0) = ((l[i - 1].1 : Int), (l[i - 1].2 : Int)) := castL_get hlt'
      have hord := List.pairwise_iff_getElem.1 h.inc (i - 1) i hlt' hlt (by omega)
      simp only [em, hg']
      exact ev2T (dT (by omega)) (ev2T (by omega) (ev2T (by omega) (ev2T (by omega) (ev2T (by omega) (ev2F (dF (by omega)) hj)))))
end
theorem sq_between {m n : Nat} (h1 : m * m < n) (h2 : n < (m + 1) * (m + 1)) : sqB (n : Int) = false := by
  cases h : sqB (n : Int) with
  | false => rfl
  | true =>
    exfalso
    obtain ⟨r, hr⟩ := sqB_iff.1 h
    rcases Nat.lt_or_ge m r with q | q
    · have := Nat.mul_le_mul (show m + 1 ≤ r from q) (show m + 1 ≤ r from q); omega
    · have := Nat.mul_le_mul q q; omega
theorem tail_e {m : Nat} (hm : m < 65536) : Ev (fun k => plexuslaw22_LocalFactors.j2 k (m : Int) true) true := by
  have hmm : m * m ≤ 4294836225 := Nat.mul_le_mul (show m ≤ 65535 by omega) (show m ≤ 65535 by omega)
  have wm : IntKind.wrap IntKind.i64 (m : Int) = (m : Int) := i64n (by omega)
  have w1 : IntKind.wrap IntKind.i64 ((m : Int) * (m : Int)) = ((m * m : Nat) : Int) := by rw [← Int.natCast_mul, i64n (by omega)]
  have w2 : IntKind.wrap IntKind.i64 (-1 - (m : Int)) = -1 - (m : Int) := by rw [wrap_i64', w64 (by omega) (by omega)]
  have w3 : IntKind.wrap IntKind.i64 (((m * m : Nat) : Int) + 1) = ((m * m + 1 : Nat) : Int) := by rw [show ((m * m : Nat) : Int) + 1 = ((m * m + 1 : Nat) : Int) by omega, i64n (by omega)]
  have w4 : IntKind.wrap IntKind.i64 (2 * (m : Int)) = ((2 * m : Nat) : Int) := by rw [show 2 * (m : Int) = ((2 * m : Nat) : Int) by omega, i64n (by omega)]
  have w5 : IntKind.wrap IntKind.i64 (((m * m : Nat) : Int) + ((2 * m : Nat) : Int)) = ((m * m + 2 * m : Nat) : Int) := by rw [← Int.natCast_add, i64n (by omega)]
  have s1 : sqB ((m * m : Nat) : Int) = true := sqB_iff.2 ⟨m, rfl⟩
  have s2 : sqB (-1 - (m : Int)) = false := sqB_neg (by omega)
  have ex : (m + 1) * (m + 1) = m * m + 2 * m + 1 := by simp only [Nat.add_mul, Nat.mul_add, Nat.mul_one, Nat.one_mul]; omega
  refine evX (fun k => plexuslaw22_LocalFactors.j2_eq k _ _) ?_
  rw [wm, w1, w2, w3, w4, w5]
  have e1 := Square_e (n := ((m * m : Nat) : Int)) (by omega) (by omega)
  have e2 := Square_e (n := -1 - (m : Int)) (by omega) (by omega)
  have e3 := Square_e (n := ((m * m + 1 : Nat) : Int)) (by omega) (by omega)
  have e4 := Square_e (n := ((m * m + 2 * m : Nat) : Int)) (by omega) (by omega)
  rw [s1] at e1
  rw [s2] at e2
  refine Ev.bind e1 (evT rfl ?_)
  by_cases h : m < 1
  · exact evT (dT (by omega)) (Ev.bind e2 (evT (by decide) (Ev.now _)))
  · rw [sq_between (m := m) (by omega) (by omega)] at e3
    rw [sq_between (m := m) (by omega) (by omega)] at e4
    exact evF (dF (by omega)) (Ev.bind e3 (evT (by decide) (Ev.bind e4 (evT (by decide) (Ev.bind e2 (evT (by decide) (Ev.now _)))))))
theorem fac_len {N : Nat} {l : LN} (hN : N ≤ 1000000) (h : FL N l) : l.length ≤ 1000 := by
  have key : ∀ (l : LN) (a : Nat), 1 ≤ a → (∀ x ∈ l, 2 ≤ x.1 ∧ 1 ≤ x.2) → a + l.length ≤ l.foldl (fun a x => a * x.1 ^ x.2) a := by
    intro l
    induction l with
    | nil => intro a ha _; exact Nat.le_refl _
    | cons y l ih =>
      intro a ha hl
      obtain ⟨h1, h2⟩ := hl y (List.mem_cons_self ..)
      have h3 : 2 ≤ y.1 ^ y.2 := Nat.le_trans h1 (by
        obtain ⟨e, he⟩ : ∃ e, y.2 = e + 1 := ⟨y.2 - 1, by omega⟩
        rw [he, Nat.pow_succ]
        have := Nat.pow_pos (n := e) (show 0 < y.1 by omega)
        have := Nat.mul_le_mul_right y.1 this
        omega)
      have h4 := Nat.mul_le_mul_left a h3
      have := ih (a * y.1 ^ y.2) (by omega) fun x hx => hl x (List.mem_cons_of_mem _ hx)
      simp only [List.length_cons, List.foldl_cons]
      omega
  have key2 : ∀ (l : LN) (a : Nat), 1 ≤ a → (∀ x ∈ l, 2 ≤ x.1 ∧ 1 ≤ x.2) → a * 2 ^ l.length ≤ l.foldl (fun a x => a * x.1 ^ x.2) a := by
    intro l
    induction l with
    | nil => intro a ha _; simp
    | cons y l ih =>
      intro a ha hl
      obtain ⟨h1, h2⟩ := hl y (List.mem_cons_self ..)
      have h3 : 2 ≤ y.1 ^ y.2 := Nat.le_trans h1 (by
        obtain ⟨e, he⟩ : ∃ e, y.2 = e + 1 := ⟨y.2 - 1, by omega⟩
        rw [he, Nat.pow_succ]
        have := Nat.pow_pos (n := e) (show 0 < y.1 by omega)
        have := Nat.mul_le_mul_right y.1 this
        omega)
      have h4 := Nat.mul_le_mul_left a h3
      have h5 := ih (a * y.1 ^ y.2) (by omega) fun x hx => hl x (List.mem_cons_of_mem _ hx)
      have h6 := Nat.mul_le_mul_right (2 ^ l.length) h4
      simp only [List.length_cons, List.foldl_cons, Nat.pow_succ]
      have h7 : a * (2 ^ l.length * 2) = a * 2 * 2 ^ l.length := by rw [Nat.mul_comm (2 ^ l.length) 2, Nat.mul_assoc]
      omega
  have h1 := key2 l 1 (Nat.le_refl 1) fun x hx => by
    obtain ⟨q1, q2, _⟩ := h.ent x hx
    exact ⟨q1.1, q2⟩
  have h2 : 1 * 2 ^ l.length ≤ 1000000 := Nat.le_trans h1 (by have := h.prod; unfold prodL at this; omega)
  rcases Nat.lt_or_ge 1000 l.length with q | q
  · exfalso
    have : 2 ^ 20 ≤ 2 ^ l.length := Nat.pow_le_pow_right (by decide) (by omega)
    have : (2 : Nat) ^ 20 = 1048576 := by decide
    omega
  · exact q
theorem factors_of {n : Int} {m : Int} (hm : 0 ≤ m ∧ m < 65536) : Ev (fun k => plexuslaw22_LocalFactors.m k n m) true := by
  obtain ⟨M, rfl⟩ := Int.eq_ofNat_of_zero_le hm.1
  have ht := tail_e (m := M) (by omega)
  refine evX (fun k => plexuslaw22_LocalFactors.m_eq k _ _) (Ev.bind examples22 (evF (by decide) ?_))
  have out : (n < 1 ∨ 1000000 < n) → Ev (fun k => local_Factors.m k n) ([], 1) := fun h => by
    refine evX (fun k => local_Factors.m_eq k _) ?_
    by_cases h1 : n < 1
    · exact evT (dT h1) (Ev.now _)
    · exact evF (dF h1) (evT (dT (by omega)) (Ev.now _))
  have jbad : Ev (fun k => plexuslaw22_LocalFactors.j0 k n (M : Int) true ([], 1)) true := by
    refine evX (fun k => plexuslaw22_LocalFactors.j0_eq k _ _ _ _) (Ev2.diag (g := fun a k => plexuslaw22_LocalFactors.l0 a k n (M : Int) true ([], 1) 1 true 0) ?_)
    refine Ev2.step (fun a k => plexuslaw22_LocalFactors.l0_succ a k _ _ _ _ _ _ _) (ev2F (dF (by simp)) (ev2F (bF (by decide)) (Ev2.of ht)))
  by_cases h1 : n ≥ 1
  · by_cases h2 : n ≤ 1000000
    · obtain ⟨N, rfl⟩ := Int.eq_ofNat_of_zero_le (a := n) (by omega)
      obtain ⟨r, hr, he⟩ := fac_e (N := N) (by omega) (by omega)
      refine Ev.bind he (evT (dT h1) (evF ?_ (evF (nF rfl) ?_)))
      · have : decide ((N : Int) ≤ 1000000) = true := decide_eq_true h2
        rw [this]
        show ¬ ((!((0 : Int) == 0) == true) = true)
        decide
      · refine evX (fun k => plexuslaw22_LocalFactors.j0_eq k _ _ _ _) ?_
        have := (out_loop (M : Int) (by omega) (by omega) hr (fac_len (by omega) hr) ht _ 0 rfl (by omega)).diag
        simpa [prodL, evenL] using this
    · refine Ev.bind (out (.inr (by omega))) (evT (dT h1) (evF ?_ (evT (nT (by decide)) (evF (nF rfl) (evF (dF (by simp)) jbad)))))
      have : decide (n ≤ 1000000) = false := decide_eq_false h2
      rw [this]; decide
  · exact Ev.bind (out (.inl (by omega))) (evF (dF h1) (evF (by decide) (evT (nT (by decide)) (evF (nF rfl) (evF (dF (by simp)) jbad)))))
end Go.Proofs.YtakimeeakmlemaaQ
