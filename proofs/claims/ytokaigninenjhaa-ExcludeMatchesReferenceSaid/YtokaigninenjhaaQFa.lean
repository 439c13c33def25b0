/- LocalFactors: factors of a number, squares. -/
import Derived.Test.YtokaigninenjhaaQL
import Derived.Test.YtokaigninenjhaaX22P
namespace Go.Proofs.YtokaigninenjhaaQ
set_option linter.unusedVariables false
set_option linter.unusedSimpArgs false
open Go Go.RowKit Go.Proofs.Ytokaigninenjhaa.P22 Go.Proofs.Ytokaigninenjhaa.V22 Go.Proofs.YtokaigninenjhaaW.PrintWords Go.Proofs.YtokaigninenjhaaW.PrintLast Go.Proofs.YtokaigninenjhaaW.PrintMore
/-! ### primes -/
def Pr (q : Nat) : Prop := 2 ≤ q ∧ ∀ d, 2 ≤ d → d < q → ¬ d ∣ q
theorem Pr.dvd_mul {q a b : Nat} (hq : Pr q) (h : q ∣ a * b) : q ∣ a ∨ q ∣ b := by
  by_cases ha : q ∣ a
  · exact .inl ha
  · right
    have hg : Nat.gcd q a = 1 := by
      have h1 := Nat.gcd_dvd_left q a
      have h2 := Nat.gcd_dvd_right q a
      have h0 : 0 < Nat.gcd q a := Nat.gcd_pos_of_pos_left _ (by have := hq.1; omega)
      have hle := Nat.le_of_dvd (by have := hq.1; omega) h1
      by_cases q1 : Nat.gcd q a = 1
      · exact q1
      · exfalso
        by_cases q2 : Nat.gcd q a = q
        · rw [q2] at h2; exact ha h2
        · exact hq.2 _ (by omega) (by omega) h1
    exact (show Nat.Coprime q a from hg).dvd_of_dvd_mul_left h
def Sq (n : Nat) : Prop := ∃ r, r * r = n
/-- A prime power times what it does not divide. -/
theorem Sq_even {q : Nat} (hq : Pr q) : ∀ (e m r : Nat), q ^ e * m = r * r → ¬ q ∣ m → e % 2 = 0 ∧ ∃ s, s * s = m
  | 0, m, r, h, _ => ⟨rfl, r, by rw [← h]; simp⟩
  | 1, m, r, h, hm => by
    exfalso
    have hd : q ∣ r * r := ⟨m, by rw [← h]; simp⟩
    obtain ⟨s, rfl⟩ : q ∣ r := (hq.dvd_mul hd).elim id id
    have h0 : 0 < q := by have := hq.1; omega
    have : q * m = q * (q * (s * s)) := by rw [show q * m = q ^ 1 * m by simp, h]; simp [Nat.mul_assoc, Nat.mul_left_comm]
    exact hm ⟨s * s, Nat.eq_of_mul_eq_mul_left h0 this⟩
  | e + 2, m, r, h, hm => by
    have hd : q ∣ r * r := ⟨q ^ (e + 1) * m, by rw [← h, Nat.pow_succ, Nat.mul_comm (q ^ (e + 1)) q, Nat.mul_assoc]⟩
    obtain ⟨s, rfl⟩ : q ∣ r := (hq.dvd_mul hd).elim id id
    have h0 : 0 < q := by have := hq.1; omega
    have h1 : q * (q * (q ^ e * m)) = q * (q * (s * s)) := by
      have e1 : q * (q * (q ^ e * m)) = q ^ (e + 2) * m := by rw [Nat.pow_succ, Nat.pow_succ]; simp [Nat.mul_assoc, Nat.mul_left_comm, Nat.mul_comm]
      rw [e1, h]; simp [Nat.mul_assoc, Nat.mul_left_comm]
    have h2 := Nat.eq_of_mul_eq_mul_left h0 (Nat.eq_of_mul_eq_mul_left h0 h1)
    obtain ⟨h3, h4⟩ := Sq_even hq e m s h2 hm
    exact ⟨by omega, h4⟩
theorem Sq_split {q e m : Nat} (hq : Pr q) (hm : ¬ q ∣ m) : Sq (q ^ e * m) ↔ e % 2 = 0 ∧ Sq m := by
  constructor
  · rintro ⟨r, h⟩
    exact Sq_even hq e m r h.symm hm
  · rintro ⟨he, s, rfl⟩
    refine ⟨q ^ (e / 2) * s, ?_⟩
    have : q ^ e = q ^ (e / 2) * q ^ (e / 2) := by rw [← Nat.pow_add]; congr 1; omega
    rw [this]; simp [Nat.mul_assoc, Nat.mul_left_comm]
/-! ### squares -/
def sqB (n : Int) : Bool := if n < 0 then false else ((isq n.toNat * isq n.toNat : Nat) : Int) == n
theorem sqB_iff {n : Nat} : sqB (n : Int) = true ↔ Sq n := by
  unfold sqB
  rw [if_neg (by omega), Int.toNat_natCast, beq_iff_eq]
  constructor
  · intro h; exact ⟨isq n, by omega⟩
  · rintro ⟨r, rfl⟩
    rw [← isq_uniq (n := r * r) (r := r) (Nat.le_refl _) (by
      have : (r + 1) * (r + 1) = r * r + 2 * r + 1 := by simp only [Nat.add_mul, Nat.mul_add, Nat.mul_one, Nat.one_mul]; omega
      omega)]
theorem sqB_neg {n : Int} (h : n < 0) : sqB n = false := if_pos h
theorem Square_e {n : Int} (h0 : -9223372036854775808 ≤ n) (h1 : n < 9223372036854775808) : Ev (fun k => local_Square.m k n) (sqB n) := by
  refine evX (fun k => local_Square.m_eq k _) (Ev.bind (a := (if n < 0 then 0 else (isq n.toNat : Int), sqB n)) ⟨0, fun k _ => ?_⟩ (Ev.now _))
  rw [← cRoot.hid]
  unfold rootC
  rw [if_pos ⟨h0, h1⟩]
  unfold local_root.f sqB
  split <;> rfl
/-! ### the prime of the reference, and the valuation -/
theorem sq_lt {a b : Nat} (h : a < b) : a * a < b * b := Nat.mul_lt_mul_of_lt_of_le h (Nat.le_of_lt h) (by omega)
theorem dvd_beq {n d : Nat} (hd : 0 < d) : (Go.Vx.divF BinOp.rem IntKind.i64 (n : Int) (d : Int) == 0) = decide (d ∣ n) := by
  rw [rem_tmod, Int.tmod_eq_emod_of_nonneg (by omega), Bool.eq_iff_iff, beq_iff_eq, decide_eq_true_iff]
  constructor
  · intro h; exact Nat.dvd_of_mod_eq_zero (by omega)
  · intro h; have := Nat.mod_eq_zero_of_dvd h; omega
theorem i64n {n : Nat} (h : n < 9223372036854775808) : IntKind.wrap IntKind.i64 (n : Int) = (n : Int) := by rw [wrap_i64', w64 (by omega) (by omega)]
theorem val_l0 {p : Nat} (hp : 2 ≤ p) : ∀ (m n i : Nat), n ≤ m → 1 ≤ n → i + n ≤ 2000000 →
    ∃ j u : Nat, n = p ^ j * u ∧ ¬ p ∣ u ∧ 1 ≤ u ∧ Ev2 (fun a k => local_valuation.l0 a k (p : Int) (n : Int) (i : Int)) (((i + j : Nat) : Int), (u : Int))
  | 0, n, i, h0, h1, _ => by omega
  | m + 1, n, i, h0, h1, hi => by
    by_cases hd : p ∣ n
    · obtain ⟨u, rfl⟩ := hd
      have hu : 1 ≤ u := Nat.pos_of_ne_zero fun q => by rw [q] at h1; simp at h1
      have hlt : u < p * u := by
        have := Nat.mul_le_mul_right u hp; omega
      obtain ⟨j, v, e1, e2, e3, e4⟩ := val_l0 hp m u (i + 1) (by omega) hu (by omega)
      refine ⟨j + 1, v, ?_, e2, e3, ?_⟩
      · rw [e1, Nat.pow_succ]
        rw [← e1]
        rw [Nat.mul_comm (p ^ j) p, Nat.mul_assoc, ← e1]
      · refine Ev2.step (fun a k => local_valuation.l0_succ a k _ _ _) (ev2F (by omega) (ev2T ?_ (ev2F (by omega) ?_)))
        · rw [dvd_beq (by omega), decide_eq_true_iff]; exact ⟨u, rfl⟩
        · have eq1 : Go.Vx.divF BinOp.quo IntKind.i64 ((p * u : Nat) : Int) (p : Int) = (u : Int) := by
            show IntKind.i64.wrap (Int.tdiv ((p * u : Nat) : Int) (p : Int)) = _
            rw [Int.tdiv_eq_ediv_of_nonneg (by omega), ← Int.natCast_ediv, Nat.mul_div_cancel_left _ (by omega)]
            exact i64n (by omega)
          rw [eq1, show (i : Int) + 1 = ((i + 1 : Nat) : Int) by omega, i64n (by omega)]
          rw [show i + (j + 1) = i + 1 + j by omega]
          exact e4
    · refine ⟨0, n, by simp, hd, h1, ?_⟩
      refine Ev2.step (fun a k => local_valuation.l0_succ a k _ _ _) (ev2F (by omega) (ev2F ?_ (Ev2.now _)))
      rw [dvd_beq (by omega), decide_eq_true_iff]; exact hd
theorem val_e {p n : Nat} (hp : 2 ≤ p) (h1 : 1 ≤ n) (hn : n ≤ 1000000) : ∃ j u : Nat, n = p ^ j * u ∧ ¬ p ∣ u ∧ 1 ≤ u ∧ Ev (fun k => local_valuation.m k (n : Int) (p : Int)) ((j : Int), (u : Int)) := by
  obtain ⟨j, u, e1, e2, e3, e4⟩ := val_l0 hp n n 0 (Nat.le_refl _) h1 (by omega)
  refine ⟨j, u, e1, e2, e3, evX (fun k => local_valuation.m_eq k _ _) ?_⟩
  rw [show j = 0 + j by omega]
  exact e4.diag
theorem rprime_l0 {q : Nat} (hq : Pr q) (hb : q ≤ 1000000) : ∀ (m d : Nat), 1001 - d = m → 2 ≤ d → d ≤ 1001 → Ev2 (fun a k => plexusref01_Prime.l0 a k (q : Int) (d : Int)) true
  | 0, d, hm, hd, hd2 => by
    have h1 : q < d * d := Nat.lt_of_le_of_lt hb (Nat.lt_of_lt_of_le (by decide) (Nat.mul_le_mul (show 1001 ≤ d by omega) (show 1001 ≤ d by omega)))
    have h2 := Nat.mul_le_mul hd2 hd2
    refine Ev2.step (fun a k => plexusref01_Prime.l0_succ a k _ _) (ev2F (dF ?_) (Ev2.now _))
    rw [← Int.natCast_mul, i64n (by omega)]
    omega
  | m + 1, d, hm, hd, hd2 => by
    have h2 := Nat.mul_le_mul hd2 hd2
    refine Ev2.step (fun a k => plexusref01_Prime.l0_succ a k _ _) ?_
    rw [← Int.natCast_mul, i64n (by omega)]
    by_cases h : d * d ≤ q
    · have hlt : d < q := by
        have := Nat.mul_le_mul_right d hd
        omega
      refine ev2T (dT (by omega)) (ev2F (by omega) (ev2F ?_ ?_))
      · rw [dvd_beq (by omega), decide_eq_true_iff]; exact hq.2 d hd hlt
      · rw [show (d : Int) + 1 = ((d + 1 : Nat) : Int) by omega, i64n (by omega)]
        exact rprime_l0 hq hb m (d + 1) (by omega) (by omega) (by omega)
    · exact ev2F (dF (by omega)) (Ev2.now _)
theorem rprime_e {q : Nat} (hq : Pr q) (hb : q ≤ 1000000) : Ev (fun k => plexusref01_Prime.m k (q : Int)) true := by
  have := hq.1
  refine evX (fun k => plexusref01_Prime.m_eq k _) (evF (dF (by omega)) ?_)
  exact (rprime_l0 hq hb _ 2 rfl (by omega) (by omega)).diag
/-! ### the factors -/
abbrev LN := List (Nat × Nat)
def castL (l : LN) : List (Int × Int) := l.map fun x => ((x.1 : Int), (x.2 : Int))
def prodL (l : LN) : Nat := l.foldl (fun a x => a * x.1 ^ x.2) 1
def evenL (l : LN) : Bool := l.all fun x => x.2 % 2 == 0
theorem prodL_app (l : LN) (x : Nat × Nat) : prodL (l ++ [x]) = prodL l * x.1 ^ x.2 := by unfold prodL; rw [List.foldl_append]; rfl
theorem evenL_app (l : LN) (x : Nat × Nat) : evenL (l ++ [x]) = (evenL l && x.2 % 2 == 0) := by unfold evenL; rw [List.all_append]; simp
theorem castL_app (l : LN) (x : Nat × Nat) : castL (l ++ [x]) = castL l ++ [((x.1 : Int), (x.2 : Int))] := by unfold castL; rw [List.map_append]; rfl
theorem castL_len (l : LN) : (castL l).length = l.length := List.length_map _
/-- What is found so far. -/
structure FI (N n p : Nat) (l : LN) : Prop where
  pos : 1 ≤ n
  p2 : 2 ≤ p
  prod : N = prodL l * n
  nod : ∀ d, 2 ≤ d → d < p → ¬ d ∣ n
  ent : ∀ x ∈ l, Pr x.1 ∧ 1 ≤ x.2 ∧ x.2 ≤ 20 ∧ x.1 < p
  inc : l.Pairwise fun x y => x.1 < y.1
  sq : Sq N ↔ evenL l = true ∧ Sq n
  len : l.length + 2 ≤ p
/-- What is found at last. -/
structure FL (N : Nat) (l : LN) : Prop where
  prod : N = prodL l
  ent : ∀ x ∈ l, Pr x.1 ∧ 1 ≤ x.2 ∧ x.2 ≤ 20 ∧ x.1 ≤ 1000000
  inc : l.Pairwise fun x y => x.1 < y.1
  sq : Sq N ↔ evenL l = true
theorem prodL_dvd {l : LN} {n N : Nat} (h : N = prodL l * n) (hN : 1 ≤ N) : n ≤ N := by
  have h0 : 1 ≤ prodL l := Nat.pos_of_ne_zero fun q => by rw [q] at h; simp at h; omega
  have := Nat.mul_le_mul_right n h0
  omega
theorem dvd_pow {p j u d : Nat} (h : d ∣ u) : d ∣ p ^ j * u := Nat.dvd_trans h (Nat.dvd_mul_left u (p ^ j))
theorem FI.next {N n p : Nat} {l : LN} (h : FI N n p l) (hd : ¬ p ∣ n) : FI N n (p + 1) l := by
  refine ⟨h.pos, by have := h.p2; omega, h.prod, fun d h1 h2 => ?_, fun x hx => ?_, h.inc, h.sq, by have := h.len; omega⟩
  · by_cases q : d = p
    · rw [q]; exact hd
    · exact h.nod d h1 (by omega)
  · obtain ⟨q1, q2, q3, q4⟩ := h.ent x hx
    exact ⟨q1, q2, q3, by omega⟩
theorem FI.take {N n p j u : Nat} {l : LN} (h : FI N n p l) (hN : N ≤ 1000000) (hN1 : 1 ≤ N) (e : n = p ^ j * u) (hj : 1 ≤ j) (hu : ¬ p ∣ u) (hu1 : 1 ≤ u) : FI N u (p + 1) (l ++ [(p, j)]) := by
  have hpn : p ∣ n := by rw [e]; exact Nat.dvd_trans (by obtain ⟨i, rfl⟩ : ∃ i, j = i + 1 := ⟨j - 1, by omega⟩; exact ⟨p ^ i, by rw [Nat.pow_succ, Nat.mul_comm]⟩) (Nat.dvd_mul_right _ _)
  have hP : Pr p := ⟨h.p2, fun d h1 h2 h3 => h.nod d h1 h2 (Nat.dvd_trans h3 hpn)⟩
  have hnN := prodL_dvd h.prod hN1
  have hj20 : j ≤ 20 := by
    rcases Nat.lt_or_ge 20 j with q | q
    · exfalso
      have h1 : 2 ^ 21 ≤ p ^ j := Nat.le_trans (Nat.pow_le_pow_right (by decide) q) (Nat.pow_le_pow_left h.p2 j)
      have h2 : p ^ j * 1 ≤ p ^ j * u := Nat.mul_le_mul_left _ hu1
      have : (2 : Nat) ^ 21 = 2097152 := by decide
      omega
    · exact q
  refine ⟨hu1, by have := h.p2; omega, ?_, fun d h1 h2 => ?_, fun x hx => ?_, ?_, ?_, by rw [List.length_append]; have := h.len; simp; omega⟩
  · rw [prodL_app, h.prod, e, Nat.mul_assoc]
  · by_cases q : d = p
    · rw [q]; exact hu
    · intro hdu
      exact h.nod d h1 (by omega) (by rw [e]; exact dvd_pow hdu)
  · rcases List.mem_append.1 hx with hx | hx
    · obtain ⟨q1, q2, q3, q4⟩ := h.ent x hx
      exact ⟨q1, q2, q3, by omega⟩
    · rw [List.mem_singleton.1 hx]
      exact ⟨hP, hj, hj20, by show p < p + 1; omega⟩
  · rw [List.pairwise_append]
    refine ⟨h.inc, List.pairwise_singleton _ _, fun x hx y hy => ?_⟩
    rw [List.mem_singleton.1 hy]
    exact (h.ent x hx).2.2.2
  · rw [h.sq, e, Sq_split hP hu, evenL_app, Bool.and_eq_true, beq_iff_eq, and_assoc]
theorem Sq_prime {q : Nat} (hq : Pr q) : ¬ Sq q := by
  intro h
  have h2 : q ^ 1 * 1 = q := by simp
  rw [← h2] at h
  have := (Sq_split hq (e := 1) (m := 1) (fun z => by have := Nat.le_of_dvd (by decide) z; have := hq.1; omega)).1 h
  omega
theorem FI.last {N n p : Nat} {l : LN} (h : FI N n p l) (hN : N ≤ 1000000) (hN1 : 1 ≤ N) (hp : n < p * p) (hn : 1 < n) : FL N (l ++ [(n, 1)]) := by
  have hnN := prodL_dvd h.prod hN1
  have hP : Pr n := by
    refine ⟨hn, fun d h1 h2 h3 => ?_⟩
    obtain ⟨c, hc⟩ := h3
    by_cases q : d < p
    · exact h.nod d h1 q ⟨c, hc⟩
    · have hcp : c < p := by
        rcases Nat.lt_or_ge c p with z | z
        · exact z
        · exfalso
          have := Nat.mul_le_mul (show p ≤ d by omega) z
          omega
      have hc2 : 2 ≤ c := by
        rcases Nat.lt_or_ge c 2 with z | z
        · exfalso
          have : c = 0 ∨ c = 1 := by omega
          rcases this with z | z
          · rw [z] at hc; simp at hc; omega
          · rw [z] at hc; simp at hc; omega
        · exact z
      exact h.nod c hc2 hcp ⟨d, by rw [Nat.mul_comm]; exact hc⟩
  have hpn : p ≤ n := by
    rcases Nat.lt_or_ge n p with z | z
    · exfalso; exact h.nod n hn z (Nat.dvd_refl n)
    · exact z
  refine ⟨by rw [prodL_app]; simpa using h.prod, fun x hx => ?_, ?_, ?_⟩
  · rcases List.mem_append.1 hx with hx | hx
    · obtain ⟨q1, q2, q3, q4⟩ := h.ent x hx
      exact ⟨q1, q2, q3, by omega⟩
    · rw [List.mem_singleton.1 hx]
      exact ⟨hP, Nat.le_refl 1, (by decide : 1 ≤ 20), by show n ≤ 1000000; omega⟩
  · rw [List.pairwise_append]
    refine ⟨h.inc, List.pairwise_singleton _ _, fun x hx y hy => ?_⟩
    rw [List.mem_singleton.1 hy]
    have := (h.ent x hx).2.2.2
    show x.1 < n
    omega
  · rw [h.sq, evenL_app]
    constructor
    · rintro ⟨_, z⟩; exact absurd z (Sq_prime hP)
    · intro z; simp at z
theorem FI.done {N p : Nat} {l : LN} (h : FI N 1 p l) (hN : N ≤ 1000000) (hp : p ≤ 1000001) : FL N l := by
  refine ⟨by simpa using h.prod, fun x hx => ?_, h.inc, ?_⟩
  · obtain ⟨q1, q2, q3, q4⟩ := h.ent x hx
    exact ⟨q1, q2, q3, by omega⟩
  · rw [h.sq]
    exact ⟨fun z => z.1, fun z => ⟨z, 1, rfl⟩⟩
end Go.Proofs.YtokaigninenjhaaQ
