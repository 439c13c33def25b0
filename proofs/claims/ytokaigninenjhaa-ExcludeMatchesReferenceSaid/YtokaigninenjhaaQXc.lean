/- Exclude: parameters in question, numbers of blocks, which reasons exclude, the first reason, what is open. -/
import Derived.Test.YtokaigninenjhaaQMc
import Derived.Test.YtokaigninenjhaaX24
import Derived.Test.YtokaigninenjhaaX24R
import Derived.Test.YtokaigninenjhaaX24Z

namespace Go.Proofs.YtokaigninenjhaaQ
set_option linter.unusedVariables false
set_option linter.unusedSimpArgs false
open Go Go.RowKit Go.Proofs.Ytokaigninenjhaa.P22 Go.Proofs.Ytokaigninenjhaa.V22 Go.Proofs.YtokaigninenjhaaW.PrintWords Go.Proofs.YtokaigninenjhaaW.PrintLast Go.Proofs.YtokaigninenjhaaW.PrintMore
def RP (p : Int × Int × Int × Int) : Prop := p.1 = 2 ∧ 2 ≤ p.2.2.1 ∧ p.2.2.1 < p.2.1 ∧ p.2.1 ≤ 100 ∧ 1 ≤ p.2.2.2 ∧ p.2.2.2 ≤ 20
instance (p : Int × Int × Int × Int) : Decidable (RP p) := by unfold RP; infer_instance
def RN (v k l : Nat) : Prop := 2 ≤ k ∧ k < v ∧ v ≤ 100 ∧ 1 ≤ l ∧ l ≤ 20
theorem RP.nat {p : Int × Int × Int × Int} (h : RP p) : ∃ v k l : Nat, p = (2, (v : Int), (k : Int), (l : Int)) ∧ RN v k l := by
 obtain ⟨t, v, k, l⟩ := p
 obtain ⟨h1, h2, h3, h4, h5, h6⟩ := h
 simp only at h1 h2 h3 h4 h5 h6
 obtain ⟨v, rfl⟩ := Int.eq_ofNat_of_zero_le (a := v) (by omega)
 obtain ⟨k, rfl⟩ := Int.eq_ofNat_of_zero_le (a := k) (by omega)
 obtain ⟨l, rfl⟩ := Int.eq_ofNat_of_zero_le (a := l) (by omega)
 exact ⟨v, k, l, by rw [h1], by omega, by omega, by omega, by omega, by omega⟩
theorem RN.rp {v k l : Nat} (h : RN v k l) : RP (2, (v : Int), (k : Int), (l : Int)) := by
 obtain ⟨h1, h2, h3, h4, h5⟩ := h
 exact ⟨rfl, by show (2 : Int) ≤ k; omega, by show (k : Int) < v; omega, by show (v : Int) ≤ 100; omega, by show (1 : Int) ≤ l; omega, by show (l : Int) ≤ 20; omega⟩
theorem right_both (p : Int × Int × Int × Int) : Ev (fun k => exclude_Right.m k p) (if RP p then 0 else 1) ∧ Ev (fun k => plexusref24_Right.m k p) (if RP p then 0 else 1) := by
 suffices z : ∀ f : Nat → Option Int, (∀ k, f k = (if (p.fst != 2) = true then some (1) else (if decide (p.snd.snd.fst < 2) = true then some (1) else (if decide (p.snd.snd.fst ≥ p.snd.fst) = true then some (1) else (if decide (p.snd.fst > 100) = true then some (1) else (if decide (p.snd.snd.snd < 1) = true then some (1) else (if (decide (p.snd.snd.snd > 20)) = true then some (1) else some (0)))))))) → Ev f (if RP p then 0 else 1) from
  ⟨z _ fun k => exclude_Right.m_eq k _, z _ fun k => plexusref24_Right.m_eq k _⟩
 intro f hf
 refine evX hf ?_
 have F : ¬ RP p → (if RP p then (0 : Int) else 1) = 1 := fun h => if_neg h
 have T : RP p → (if RP p then (0 : Int) else 1) = 0 := fun h => if_pos h
 unfold RP at F T
 unfold RP
 by_cases h1 : p.1 = 2
 ·refine evF (nF h1) ?_
  by_cases h2 : p.2.2.1 < 2
  ·rw [F (by omega)]; exact evT (dT h2) (Ev.now _)
  ·refine evF (dF h2) ?_
   by_cases h3 : p.2.2.1 ≥ p.2.1
   ·rw [F (by omega)]; exact evT (dT h3) (Ev.now _)
   ·refine evF (dF h3) ?_
    by_cases h4 : p.2.1 > 100
    ·rw [F (by omega)]; exact evT (dT h4) (Ev.now _)
    ·refine evF (dF h4) ?_
     by_cases h5 : p.2.2.2 < 1
     ·rw [F (by omega)]; exact evT (dT h5) (Ev.now _)
     ·refine evF (dF h5) ?_
      by_cases h6 : p.2.2.2 > 20
      ·rw [F (by omega)]; exact evT (dT h6) (Ev.now _)
      ·rw [T (by omega)]; exact evF (dF h6) (Ev.now _)
 ·rw [F (by omega)]; exact evT (nT h1) (Ev.now _)
theorem right_T {p : Int × Int × Int × Int} (h : RP p) : Ev (fun k => exclude_Right.m k p) 0 := by have := (right_both p).1; rwa [if_pos h] at this
theorem right_F {p : Int × Int × Int × Int} (h : ¬ RP p) : Ev (fun k => exclude_Right.m k p) 1 := by have := (right_both p).1; rwa [if_neg h] at this
theorem rright_T {p : Int × Int × Int × Int} (h : RP p) : Ev (fun k => plexusref24_Right.m k p) 0 := by have := (right_both p).2; rwa [if_pos h] at this
theorem rright_F {p : Int × Int × Int × Int} (h : ¬ RP p) : Ev (fun k => plexusref24_Right.m k p) 1 := by have := (right_both p).2; rwa [if_neg h] at this
theorem sub1 {v : Nat} (h : 1 ≤ v) (h2 : v < 9223372036854775808) : IntKind.wrap IntKind.i64 ((v : Int) - 1) = ((v - 1 : Nat) : Int) := by
 rw [show (v : Int) - 1 = ((v - 1 : Nat) : Int) by omega, i64n (by omega)]
theorem mul64 {a b : Nat} (h : a * b < 9223372036854775808) : IntKind.wrap IntKind.i64 ((a : Int) * (b : Int)) = ((a * b : Nat) : Int) := by
 rw [← Int.natCast_mul, i64n h]
theorem gcd_l0 {N D : Nat} (hN : N < 9223372036854775808) (hD : D < 9223372036854775808) : ∀ (m a b : Nat), b < m → 0 < Nat.gcd a b →
  Ev2 (fun n k => exclude_Blocks.l0 n k (N : Int) (D : Int) (a : Int) (b : Int)) ((((N / Nat.gcd a b : Nat) : Int), ((D / Nat.gcd a b : Nat) : Int)), 0)
 | 0, a, b, h, _ => by omega
 | m + 1, a, b, h, hg => by
  refine Ev2.step (fun n k => exclude_Blocks.l0_succ n k _ _ _ _) ?_
  by_cases hb : b = 0
  ·subst hb
   rw [Nat.gcd_zero_right] at hg ⊢
   refine ev2F (nF rfl) (ev2F (by omega) (ev2F (by omega) ?_))
   rw [quo_nat hN hg, quo_nat hD hg]
   exact Ev2.now _
  ·refine ev2T (nT (by omega)) (ev2F (by omega) ?_)
   rw [rem_nat]
   have e : Nat.gcd a b = Nat.gcd b (a % b) := by rw [Nat.gcd_comm, Nat.gcd_rec, Nat.gcd_comm]
   rw [e] at hg ⊢
   exact gcd_l0 hN hD m b (a % b) (by have := Nat.mod_lt a (show 0 < b by omega); omega) hg
theorem div_e : ∀ (m a b : Nat), b < m → ∀ d, m ≤ d → cDiv.r d (a : Int) (b : Int) = some ((Nat.gcd a b : Nat) : Int)
 | 0, a, b, h, d, _ => by omega
 | m + 1, a, b, h, 0, hd => by omega
 | m + 1, a, b, h, d + 1, hd => by
  rw [cDiv.r_succ]
  by_cases hb : b = 0
  ·subst hb
   rw [Nat.gcd_zero_right]
   exact if_pos rfl
  ·rw [if_neg (bF (by omega)), if_neg (by omega), rem_nat, div_e m b (a % b) (by have := Nat.mod_lt a (show 0 < b by omega); omega) d (by omega)]
   rw [show Nat.gcd a b = Nat.gcd b (a % b) by rw [Nat.gcd_comm, Nat.gcd_rec, Nat.gcd_comm]]
   rfl
def Nn (v l : Nat) (n : Int) : Nat := if n = 0 then l * (v - 1) * v else l * (v - 1)
def Dd (k : Nat) (n : Int) : Nat := if n = 0 then (k - 1) * k else k - 1
def blk (v k l : Nat) (n : Int) : Int × Int := (((Nn v l n / Nat.gcd (Nn v l n) (Dd k n) : Nat) : Int), ((Dd k n / Nat.gcd (Nn v l n) (Dd k n) : Nat) : Int))
def blkV (v k l : Nat) (n : Int) : (Int × Int) × Int := if n = 0 ∨ n = 1 then (blk v k l n, 0) else ((0, 0), 1)
theorem Nn_lt {v k l : Nat} (h : RN v k l) (n : Int) : l * (v - 1) ≤ 1980 ∧ Nn v l n ≤ 198000 := by
 obtain ⟨h1, h2, h3, h4, h5⟩ := h
 have e1 : l * (v - 1) ≤ 20 * 99 := Nat.mul_le_mul h5 (by omega)
 have e2 : l * (v - 1) * v ≤ 1980 * 100 := Nat.mul_le_mul (by omega) h3
 refine ⟨by omega, ?_⟩
 unfold Nn; split <;> omega
theorem Dd_lt {v k l : Nat} (h : RN v k l) (n : Int) : (k - 1) * k ≤ 9801 ∧ Dd k n ≤ 9801 ∧ 0 < Dd k n := by
 obtain ⟨h1, h2, h3, h4, h5⟩ := h
 have e1 : (k - 1) * k ≤ 98 * 99 := Nat.mul_le_mul (by omega) (by omega)
 have e2 : 0 < (k - 1) * k := Nat.mul_pos (by omega) (by omega)
 refine ⟨by omega, ?_⟩
 unfold Dd; split <;> omega
theorem blocks_both {v k l : Nat} (h : RN v k l) (n : Int) : Ev (fun j => exclude_Blocks.m j (2, (v : Int), (k : Int), (l : Int)) n) (blkV v k l n) ∧ Ev (fun j => plexusref24_BlocksIn.m j (2, (v : Int), (k : Int), (l : Int)) n) (blkV v k l n) := by
 obtain ⟨n1, n2⟩ := Nn_lt h n
 obtain ⟨d1, d2, d3⟩ := Dd_lt h n
 have hg : 0 < Nat.gcd (Nn v l n) (Dd k n) := Nat.gcd_pos_of_pos_right _ d3
 have hgle : Nat.gcd (Nn v l n) (Dd k n) ≤ Dd k n := Nat.gcd_le_right _ d3
 obtain ⟨h1, h2, h3, h4, h5⟩ := h
 have nv : Nn v l 0 ≤ 198000 := (Nn_lt ⟨h1, h2, h3, h4, h5⟩ 0).2
 have e0 : IntKind.wrap IntKind.i64 (IntKind.wrap IntKind.i64 ((l : Int) * IntKind.wrap IntKind.i64 ((v : Int) - 1)) * (v : Int)) = ((Nn v l 0 : Nat) : Int) := by
  rw [sub1 (by omega) (by omega), mul64 (by omega), mul64 (by have : Nn v l 0 = l * (v - 1) * v := if_pos rfl; omega)]; rfl
 have e1 : IntKind.wrap IntKind.i64 (IntKind.wrap IntKind.i64 ((k : Int) - 1) * (k : Int)) = ((Dd k 0 : Nat) : Int) := by
  rw [sub1 (by omega) (by omega), mul64 (by omega)]; rfl
 have e2 : IntKind.wrap IntKind.i64 ((l : Int) * IntKind.wrap IntKind.i64 ((v : Int) - 1)) = ((Nn v l 1 : Nat) : Int) := by
  rw [sub1 (by omega) (by omega), mul64 (by omega)]; rfl
 have e3 : IntKind.wrap IntKind.i64 ((k : Int) - 1) = ((Dd k 1 : Nat) : Int) := by
  rw [sub1 (by omega) (by omega)]; rfl
 have hR : RN v k l := ⟨h1, h2, h3, h4, h5⟩
 have j1 : ∀ N D : Nat, N ≤ 198000 → D ≤ 9801 → 0 < D → Ev (fun j => exclude_Blocks.j1 j (N : Int) (D : Int)) ((((N / Nat.gcd N D : Nat) : Int), ((D / Nat.gcd N D : Nat) : Int)), 0) := fun N D q1 q2 q3 => by
  refine evX (fun j => exclude_Blocks.j1_eq j _ _) ?_
  suffices z : Ev2 (fun n k => exclude_Blocks.l0 n k (N : Int) (D : Int) (N : Int) (D : Int)) ((((N / Nat.gcd N D : Nat) : Int), ((D / Nat.gcd N D : Nat) : Int)), 0) from z.diag
  exact gcd_l0 (by omega) (by omega) (D + 1) N D (by omega) (Nat.gcd_pos_of_pos_right _ q3)
 have r0 : ∀ N D : Nat, N ≤ 198000 → D ≤ 9801 → 0 < D → Ev (fun j => plexusref24_BlocksIn.j0 j (N : Int) (D : Int)) ((((N / Nat.gcd N D : Nat) : Int), ((D / Nat.gcd N D : Nat) : Int)), 0) := fun N D q1 q2 q3 => by
  have hg := Nat.gcd_pos_of_pos_right N q3
  refine evX (fun j => plexusref24_BlocksIn.j0_eq j _ _) (Ev.bind (a := ((Nat.gcd N D : Nat) : Int)) ⟨D + 1, fun j hj => div_e (D + 1) N D (by omega) j hj⟩ (evF (by omega) (evF (by omega) ?_)))
  rw [quo_nat (by omega) hg, quo_nat (by omega) hg]
  exact Ev.now _
 constructor
 ·refine evX (fun j => exclude_Blocks.m_eq j _ _) (Ev.bind (right_T hR.rp) (evF (nF rfl) ?_))
  have tail : ∀ q : Int, q = 0 ∨ q = 1 → Ev (fun j => exclude_Blocks.j0 j (2, (v : Int), (k : Int), (l : Int)) q) (blkV v k l q) := fun q hq => by
   refine evX (fun j => exclude_Blocks.j0_eq j _ _) ?_
   rcases hq with rfl | rfl
   ·refine evT (bT rfl) ?_
    show Ev (fun j => exclude_Blocks.j1 j (IntKind.wrap IntKind.i64 (IntKind.wrap IntKind.i64 ((l : Int) * IntKind.wrap IntKind.i64 ((v : Int) - 1)) * (v : Int))) (IntKind.wrap IntKind.i64 (IntKind.wrap IntKind.i64 ((k : Int) - 1) * (k : Int)))) _
    rw [e0, e1]
    exact j1 _ _ (Nn_lt hR 0).2 (Dd_lt hR 0).2.1 (Dd_lt hR 0).2.2
   ·refine evF (bF (by decide)) ?_
    show Ev (fun j => exclude_Blocks.j1 j (IntKind.wrap IntKind.i64 ((l : Int) * IntKind.wrap IntKind.i64 ((v : Int) - 1))) (IntKind.wrap IntKind.i64 ((k : Int) - 1))) _
    rw [e2, e3]
    exact j1 _ _ (Nn_lt hR 1).2 (Dd_lt hR 1).2.1 (Dd_lt hR 1).2.2
  by_cases hn : n = 0
  ·exact evF (nF hn) (tail n (.inl hn))
  ·refine evT (nT hn) ?_
   by_cases hn1 : n = 1
   ·exact evF (nF hn1) (tail n (.inr hn1))
   ·rw [show blkV v k l n = ((0, 0), 1) from if_neg (by omega)]
    exact evT (nT hn1) (Ev.now _)
 ·refine evX (fun j => plexusref24_BlocksIn.m_eq j _ _) (Ev.bind (rright_T hR.rp) (evF (nF rfl) ?_))
  by_cases hn0 : n < 0
  ·rw [show blkV v k l n = ((0, 0), 1) from if_neg (by omega)]
   exact evT (dT hn0) (Ev.now _)
  ·refine evF (dF hn0) ?_
   by_cases hn1 : n > 1
   ·rw [show blkV v k l n = ((0, 0), 1) from if_neg (by omega)]
    exact evT (dT hn1) (Ev.now _)
   ·refine evF (dF hn1) ?_
    rcases (show n = 0 ∨ n = 1 by omega) with rfl | rfl
    ·refine evT (bT rfl) ?_
     show Ev (fun j => plexusref24_BlocksIn.j0 j (IntKind.wrap IntKind.i64 (IntKind.wrap IntKind.i64 ((l : Int) * IntKind.wrap IntKind.i64 ((v : Int) - 1)) * (v : Int))) (IntKind.wrap IntKind.i64 (IntKind.wrap IntKind.i64 ((k : Int) - 1) * (k : Int)))) _
     rw [e0, e1]
     exact r0 _ _ (Nn_lt hR 0).2 (Dd_lt hR 0).2.1 (Dd_lt hR 0).2.2
    ·refine evF (bF (by decide)) ?_
     show Ev (fun j => plexusref24_BlocksIn.j0 j (IntKind.wrap IntKind.i64 ((l : Int) * IntKind.wrap IntKind.i64 ((v : Int) - 1))) (IntKind.wrap IntKind.i64 ((k : Int) - 1))) _
     rw [e2, e3]
     exact r0 _ _ (Nn_lt hR 1).2 (Dd_lt hR 1).2.1 (Dd_lt hR 1).2.2
theorem blocks_F {p : Int × Int × Int × Int} (h : ¬ RP p) (n : Int) : Ev (fun j => exclude_Blocks.m j p n) ((0, 0), 1) ∧ Ev (fun j => plexusref24_BlocksIn.m j p n) ((0, 0), 1) :=
 ⟨evX (fun j => exclude_Blocks.m_eq j _ _) (Ev.bind (right_F h) (evT (nT (by decide)) (Ev.now _))), evX (fun j => plexusref24_BlocksIn.m_eq j _ _) (Ev.bind (rright_F h) (evT (nT (by decide)) (Ev.now _)))⟩
def dvB (v k l : Nat) (n : Int) : Bool := decide (n = 0 ∨ n = 1) && (blk v k l n).2 != 1
theorem dvB_iff {v k l : Nat} (h : RN v k l) {n : Int} (hn : n = 0 ∨ n = 1) : dvB v k l n = false ↔ Dd k n ∣ Nn v l n := by
 obtain ⟨d1, d2, d3⟩ := Dd_lt h n
 have hg : 0 < Nat.gcd (Nn v l n) (Dd k n) := Nat.gcd_pos_of_pos_right _ d3
 unfold dvB
 rw [decide_eq_true hn, Bool.true_and, bne_eq_false_iff_eq]
 show ((Dd k n / Nat.gcd (Nn v l n) (Dd k n) : Nat) : Int) = 1 ↔ _
 constructor
 ·intro e
  have e' : Dd k n / Nat.gcd (Nn v l n) (Dd k n) = 1 := by omega
  have := Nat.div_mul_cancel (Nat.gcd_dvd_right (Nn v l n) (Dd k n))
  rw [e', Nat.one_mul] at this
  have h2 := Nat.gcd_dvd_left (Nn v l n) (Dd k n)
  rw [this] at h2
  exact h2
 ·intro hd
  rw [Nat.gcd_eq_right hd, Nat.div_self d3]
  rfl
theorem divides_e {v k l : Nat} (h : RN v k l) (r : Int × Int × Int) : Ev (fun j => exclude_divides.m j (2, (v : Int), (k : Int), (l : Int)) r) (dvB v k l r.2.1) := by
 refine evX (fun j => exclude_divides.m_eq j _ _) (Ev.bind (blocks_both h r.2.1).1 ?_)
 unfold blkV dvB
 by_cases hn : r.2.1 = 0 ∨ r.2.1 = 1
 ·rw [if_pos hn, decide_eq_true hn, Bool.true_and]
  exact evT (bT rfl) (Ev.now _)
 ·rw [if_neg hn, decide_eq_false hn, Bool.false_and]
  exact evF (bF (by decide)) (Ev.now _)
end Go.Proofs.YtokaigninenjhaaQ

namespace Go.Proofs.YtokaigninenjhaaQ
set_option linter.unusedVariables false
set_option linter.unusedSimpArgs false
open Go Go.RowKit Go.Proofs.Ytokaigninenjhaa.P22 Go.Proofs.Ytokaigninenjhaa.V22 Go.Proofs.YtokaigninenjhaaW.PrintWords Go.Proofs.YtokaigninenjhaaW.PrintLast Go.Proofs.YtokaigninenjhaaW.PrintMore
def ex (v k l : Nat) : Int := ((l * (v - 1) : Nat) : Int) - ((k * (k - 1) : Nat) : Int)
theorem ex_bd {v k l : Nat} (h : RN v k l) : l * (v - 1) ≤ 1980 ∧ k * (k - 1) ≤ 9801 := by
 refine ⟨(Nn_lt h 0).1, ?_⟩
 have := (Dd_lt h 0).1
 rw [Nat.mul_comm]; exact this
theorem ex_w {v k l : Nat} (h : RN v k l) : IntKind.wrap IntKind.i64 ((l : Int) * IntKind.wrap IntKind.i64 ((v : Int) - 1)) = ((l * (v - 1) : Nat) : Int) ∧ IntKind.wrap IntKind.i64 ((k : Int) * IntKind.wrap IntKind.i64 ((k : Int) - 1)) = ((k * (k - 1) : Nat) : Int) := by
 obtain ⟨b1, b2⟩ := ex_bd h
 obtain ⟨h1, h2, h3, h4, h5⟩ := h
 exact ⟨by rw [sub1 (by omega) (by omega), mul64 (by omega)], by rw [sub1 (by omega) (by omega), mul64 (by omega)]⟩
theorem ex_eq0 {v k l : Nat} : ex v k l = 0 ↔ l * (v - 1) = k * (k - 1) := by unfold ex; omega
theorem sym_lt {v k l : Nat} (h : RN v k l) (he : ex v k l = 0) : l < k := by
 rw [ex_eq0] at he
 obtain ⟨h1, h2, h3, h4, h5⟩ := h
 rcases Nat.lt_or_ge l k with q | q
 ·exact q
 ·exfalso
  have e1 : k * k ≤ l * (v - 1) := Nat.mul_le_mul q (by omega)
  have e2 : k * (k - 1) + k = k * k := by
   obtain ⟨m, rfl⟩ : ∃ m, k = m + 1 := ⟨k - 1, by omega⟩
   rw [Nat.add_sub_cancel, Nat.mul_succ (m + 1) m]
  omega
theorem excess_e {v k l : Nat} (h : RN v k l) : Ev (fun j => exclude_excess.m j (2, (v : Int), (k : Int), (l : Int))) (ex v k l) := by
 refine evX (fun j => exclude_excess.m_eq j _) ?_
 obtain ⟨e1, e2⟩ := ex_w h
 obtain ⟨b1, b2⟩ := ex_bd h
 show Ev (fun j => some (IntKind.wrap IntKind.i64 (IntKind.wrap IntKind.i64 ((l : Int) * IntKind.wrap IntKind.i64 ((v : Int) - 1)) - IntKind.wrap IntKind.i64 ((k : Int) * IntKind.wrap IntKind.i64 ((k : Int) - 1))))) _
 rw [e1, e2, wrap_i64', w64 (by omega) (by omega)]
 exact Ev.now _
def odB (v k l : Nat) : Bool := decide (ex v k l = 0 ∧ v % 2 = 1)
theorem rem2 {v : Nat} {c : Int} {d : Nat} (hc : c = (d : Int)) (m : Nat) : (Go.Vx.divF BinOp.rem IntKind.i64 (v : Int) (m : Int) == c) = decide (v % m = d) := by
 rw [rem_nat, hc, Bool.eq_iff_iff, beq_iff_eq, decide_eq_true_iff]
 omega
theorem odd_e {v k l : Nat} (h : RN v k l) : Ev (fun j => exclude_odd.m j (2, (v : Int), (k : Int), (l : Int))) (odB v k l) := by
 refine evX (fun j => exclude_odd.m_eq j _) (Ev.bind (excess_e h) ?_)
 unfold odB
 by_cases he : ex v k l = 0
 ·refine evT (bT he) ?_
  show Ev (fun j => some (Go.Vx.divF BinOp.rem IntKind.i64 (v : Int) ((2 : Nat) : Int) == 1)) _
  rw [rem2 (c := 1) (d := 1) rfl 2, show decide (ex v k l = 0 ∧ v % 2 = 1) = decide (v % 2 = 1) by rw [decide_eq_decide]; exact ⟨fun q => q.2, fun q => ⟨he, q⟩⟩]
  exact Ev.now _
 ·rw [decide_eq_false (show ¬ (ex v k l = 0 ∧ v % 2 = 1) from fun q => he q.1)]
  exact evF (bF he) (Ev.now _)
def sdv (v l : Nat) : Int := if v % 4 = 3 then -(l : Int) else l
theorem kl_w {v k l : Nat} (h : RN v k l) : IntKind.wrap IntKind.i64 ((k : Int) - (l : Int)) = (k : Int) - l := by
 obtain ⟨h1, h2, h3, h4, h5⟩ := h
 rw [wrap_i64', w64 (by omega) (by omega)]
theorem neg_w {l : Nat} (h : l ≤ 1000) : IntKind.wrap IntKind.i64 (0 - (l : Int)) = -(l : Int) := by
 rw [wrap_i64', w64 (by omega) (by omega)]; omega
theorem sides_e {v k l : Nat} (h : RN v k l) : Ev (fun j => exclude_sides.m j (2, (v : Int), (k : Int), (l : Int))) ((k : Int) - l, sdv v l) := by
 refine evX (fun j => exclude_sides.m_eq j _) ?_
 have hk := kl_w h
 obtain ⟨h1, h2, h3, h4, h5⟩ := h
 show Ev (fun j => if (Go.Vx.divF BinOp.rem IntKind.i64 (v : Int) ((4 : Nat) : Int) == 3) = true then some (IntKind.wrap IntKind.i64 ((k : Int) - (l : Int)), IntKind.wrap IntKind.i64 (0 - (l : Int))) else some (IntKind.wrap IntKind.i64 ((k : Int) - (l : Int)), (l : Int))) _
 rw [rem2 (c := 3) (d := 3) rfl 4, hk, neg_w (by omega)]
 unfold sdv
 by_cases hv : v % 4 = 3
 ·rw [if_pos hv]
  exact evT (dT hv) (Ev.now _)
 ·rw [if_neg hv]
  exact evF (dF hv) (Ev.now _)
def sqR (v k l : Nat) : Bool := decide (ex v k l = 0) && (decide (v % 2 = 0) && !sqB ((k : Int) - l))
def locB (v k l : Nat) (q : Int) : Bool := odB v k l && (decide ((HA ((k : Int) - l) (sdv v l) q).2 = 0) && decide ((HA ((k : Int) - l) (sdv v l) q).1 = -1))
def ChkB (v k l : Nat) (r : Int × Int × Int) : Bool :=
 if r.1 = 1 then dvB v k l r.2.1 else if r.1 = 2 then decide (ex v k l < 0) else if r.1 = 3 then sqR v k l else if r.1 = 4 then locB v k l r.2.2 else false
theorem rules2_e {v k l : Nat} (h : RN v k l) : Ev (fun j => exclude_rules_2.m j (2, (v : Int), (k : Int), (l : Int))) (decide (ex v k l < 0)) :=
 evX (fun j => exclude_rules_2.m_eq j _) (Ev.bind (excess_e h) (Ev.now _))
theorem rules3_e {v k l : Nat} (h : RN v k l) : Ev (fun j => exclude_rules_3.m j (2, (v : Int), (k : Int), (l : Int))) (sqR v k l) := by
 refine evX (fun j => exclude_rules_3.m_eq j _) (Ev.bind (excess_e h) ?_)
 have hk := kl_w h
 obtain ⟨h1, h2, h3, h4, h5⟩ := h
 unfold sqR
 by_cases he : ex v k l = 0
 ·rw [decide_eq_true he, Bool.true_and]
  refine evT (bT he) ?_
  show Ev (fun j => if (Go.Vx.divF BinOp.rem IntKind.i64 (v : Int) ((2 : Nat) : Int) == 0) = true then (Option.bind (local_Square.m j (IntKind.wrap IntKind.i64 ((k : Int) - (l : Int)))) fun (r31 : Bool) => some (!r31)) else some false) _
  rw [rem2 (c := 0) (d := 0) rfl 2, hk]
  by_cases hv : v % 2 = 0
  ·rw [decide_eq_true hv, Bool.true_and]
   exact evT rfl (Ev.bind (Square_e (by omega) (by omega)) (Ev.now _))
  ·rw [decide_eq_false hv, Bool.false_and]
   exact evF (by decide) (Ev.now _)
 ·rw [decide_eq_false he, Bool.false_and]
  exact evF (bF he) (Ev.now _)
theorem odB_iff {v k l : Nat} : odB v k l = true ↔ ex v k l = 0 ∧ v % 2 = 1 := decide_eq_true_iff
theorem Lt_sides {v k l : Nat} (h : RN v k l) (ho : odB v k l = true) : Lt ((k : Int) - l) ∧ Lt (sdv v l) := by
 have := sym_lt h (odB_iff.1 ho).1
 obtain ⟨h1, h2, h3, h4, h5⟩ := h
 refine ⟨⟨by omega, by omega, by omega⟩, ?_⟩
 unfold sdv
 split <;> exact ⟨by omega, by omega, by omega⟩
theorem rules4_e {v k l : Nat} (h : RN v k l) (r : Int × Int × Int) : Ev (fun j => exclude_rules_4.m j (2, (v : Int), (k : Int), (l : Int)) r) (locB v k l r.2.2) := by
 refine evX (fun j => exclude_rules_4.m_eq j _ _) (Ev.bind (odd_e h) ?_)
 unfold locB
 cases ho : odB v k l with
 | false => exact evT rfl (Ev.now _)
 | true =>
  obtain ⟨l1, l2⟩ := Lt_sides h ho
  refine evF (by decide) (Ev.bind (sides_e h) (Ev.bind (HilbertA_e l1 l2) ?_))
  rw [Bool.true_and]
  by_cases hb : (HA ((k : Int) - l) (sdv v l) r.2.2).2 = 0
  ·rw [decide_eq_true hb, Bool.true_and]
   refine evT (bT hb) ?_
   rw [show decide ((HA ((k : Int) - l) (sdv v l) r.2.2).1 = -1) = ((HA ((k : Int) - l) (sdv v l) r.2.2).1 == -1) by rw [Bool.eq_iff_iff, beq_iff_eq, decide_eq_true_iff]]
   exact Ev.now _
  ·rw [decide_eq_false hb, Bool.false_and]
   exact evF (bF hb) (Ev.now _)
theorem fin_e (b : Bool) : Ev (fun _ => if (!b) = true then some (240 : Int) else some 0) (if b = true then 0 else 240) := by
 cases b
 ·exact evT rfl (Ev.now _)
 ·exact evF (by decide) (Ev.now _)
theorem check_e {v k l : Nat} (h : RN v k l) (r : Int × Int × Int) : Ev (fun j => exclude_Check.m j (2, (v : Int), (k : Int), (l : Int)) r) (if ChkB v k l r = true then 0 else 240) := by
 obtain ⟨κ, n, q⟩ := r
 refine evX (fun j => exclude_Check.m_eq j _ _) (Ev.bind (right_T h.rp) (evF (nF rfl) ?_))
 by_cases c1 : κ < 1
 ·rw [show ChkB v k l (κ, n, q) = false by unfold ChkB; simp only; rw [if_neg (by omega), if_neg (by omega), if_neg (by omega), if_neg (by omega)]]
  exact evT (dT c1) (Ev.now _)
 ·refine evF (dF c1) ?_
  by_cases c2 : κ > 4
  ·rw [show ChkB v k l (κ, n, q) = false by unfold ChkB; simp only; rw [if_neg (by omega), if_neg (by omega), if_neg (by omega), if_neg (by omega)]]
   exact evT (dT c2) (Ev.now _)
  ·refine evF (dF c2) ?_
   rcases (show κ = 1 ∨ κ = 2 ∨ κ = 3 ∨ κ = 4 by omega) with rfl | rfl | rfl | rfl
   ·exact evT (show IntKind.wrap IntKind.i64 ((1 : Int) - 1) = ((0 : Nat) : Int) by decide) (Ev.bind (divides_e h (1, n, q)) (fin_e _))
   ·exact evF (show ¬ (IntKind.wrap IntKind.i64 ((2 : Int) - 1) = ((0 : Nat) : Int)) by decide) (evT (show IntKind.wrap IntKind.i64 ((2 : Int) - 1) = ((1 : Nat) : Int) by decide) (Ev.bind (rules2_e h) (fin_e _)))
   ·exact evF (show ¬ (IntKind.wrap IntKind.i64 ((3 : Int) - 1) = ((0 : Nat) : Int)) by decide) (evF (show ¬ (IntKind.wrap IntKind.i64 ((3 : Int) - 1) = ((1 : Nat) : Int)) by decide) (evT (show IntKind.wrap IntKind.i64 ((3 : Int) - 1) = ((2 : Nat) : Int) by decide) (Ev.bind (rules3_e h) (fin_e _))))
   ·exact evF (show ¬ (IntKind.wrap IntKind.i64 ((4 : Int) - 1) = ((0 : Nat) : Int)) by decide) (evF (show ¬ (IntKind.wrap IntKind.i64 ((4 : Int) - 1) = ((1 : Nat) : Int)) by decide) (evF (show ¬ (IntKind.wrap IntKind.i64 ((4 : Int) - 1) = ((2 : Nat) : Int)) by decide) (evT (show IntKind.wrap IntKind.i64 ((4 : Int) - 1) = ((3 : Nat) : Int) by decide) (Ev.bind (rules4_e h (4, n, q)) (fin_e _)))))
theorem check_F {p : Int × Int × Int × Int} (h : ¬ RP p) (r : Int × Int × Int) : Ev (fun j => exclude_Check.m j p r) 1 :=
 evX (fun j => exclude_Check.m_eq j _ _) (Ev.bind (right_F h) (evT (nT (by decide)) (Ev.now _)))
theorem symm_e {v k l : Nat} (h : RN v k l) : Ev (fun j => plexusref24_Symmetric.m j (2, (v : Int), (k : Int), (l : Int))) (decide (ex v k l = 0)) := by
 refine evX (fun j => plexusref24_Symmetric.m_eq j _) ?_
 obtain ⟨e1, e2⟩ := ex_w h
 show Ev (fun j => some (IntKind.wrap IntKind.i64 ((l : Int) * IntKind.wrap IntKind.i64 ((v : Int) - 1)) == IntKind.wrap IntKind.i64 ((k : Int) * IntKind.wrap IntKind.i64 ((k : Int) - 1)))) _
 rw [e1, e2, show decide (ex v k l = 0) = (((l * (v - 1) : Nat) : Int) == ((k * (k - 1) : Nat) : Int)) by rw [Bool.eq_iff_iff, beq_iff_eq, decide_eq_true_iff]; unfold ex; omega]
 exact Ev.now _
theorem rsides_e {v k l : Nat} (h : RN v k l) (ho : v % 2 = 1) : Ev (fun j => plexusref24_Sides.m j (2, (v : Int), (k : Int), (l : Int))) ((k : Int) - l, sdv v l) := by
 refine evX (fun j => plexusref24_Sides.m_eq j _) ?_
 have hk := kl_w h
 obtain ⟨h1, h2, h3, h4, h5⟩ := h
 show Ev (fun j => if (Go.Vx.divF BinOp.rem IntKind.i64 (Go.Vx.divF BinOp.quo IntKind.i64 (IntKind.wrap IntKind.i64 ((v : Int) - 1)) ((2 : Nat) : Int)) ((2 : Nat) : Int) == 0) = true then some (IntKind.wrap IntKind.i64 ((k : Int) - (l : Int)), (l : Int)) else some (IntKind.wrap IntKind.i64 ((k : Int) - (l : Int)), IntKind.wrap IntKind.i64 (0 - (l : Int)))) _
 rw [sub1 (by omega) (by omega), quo_nat (by omega) (by omega), rem2 (c := 0) (d := 0) rfl 2, hk, neg_w (by omega)]
 unfold sdv
 by_cases hv : v % 4 = 3
 ·rw [if_pos hv]
  exact evF (dF (by omega)) (Ev.now _)
 ·rw [if_neg hv]
  exact evT (dT (by omega)) (Ev.now _)
theorem rcheck_e {v k l : Nat} (h : RN v k l) (r : Int × Int × Int) : Ev (fun j => plexusref24_Check.m j (2, (v : Int), (k : Int), (l : Int)) r) (if ChkB v k l r = true then 0 else 240) := by
 obtain ⟨κ, n, q⟩ := r
 refine evX (fun j => plexusref24_Check.m_eq j _ _) (Ev.bind (rright_T h.rp) (evF (nF rfl) ?_))
 have hk := kl_w h
 obtain ⟨e1, e2⟩ := ex_w h
 unfold ChkB
 by_cases c1 : κ = 1
 ·subst c1
  rw [if_pos rfl]
  refine evT (bT rfl) ?_
  have hb := (blocks_both h n).2
  unfold blkV at hb
  show Ev _ (if dvB v k l n = true then 0 else 240)
  unfold dvB
  by_cases n0 : n = 0
  ·rw [if_pos (.inl n0)] at hb
   rw [decide_eq_true (show n = 0 ∨ n = 1 from .inl n0), Bool.true_and]
   exact evT (bT n0) (Ev.bind hb (fin_e _))
  ·refine evF (bF n0) ?_
   by_cases n1 : n = 1
   ·rw [if_pos (.inr n1)] at hb
    rw [decide_eq_true (show n = 0 ∨ n = 1 from .inr n1), Bool.true_and]
    exact evT (bT n1) (Ev.bind hb (fin_e _))
   ·rw [decide_eq_false (show ¬ (n = 0 ∨ n = 1) by omega), Bool.false_and]
    exact evF (bF n1) (Ev.now _)
 ·rw [if_neg c1]
  refine evF (bF c1) ?_
  by_cases c2 : κ = 2
  ·subst c2
   rw [if_pos rfl]
   refine evT (bT rfl) ?_
   show Ev (fun j => if (!decide (IntKind.wrap IntKind.i64 ((l : Int) * IntKind.wrap IntKind.i64 ((v : Int) - 1)) < IntKind.wrap IntKind.i64 ((k : Int) * IntKind.wrap IntKind.i64 ((k : Int) - 1)))) = true then some (240 : Int) else some 0) _
   rw [e1, e2, show decide (((l * (v - 1) : Nat) : Int) < ((k * (k - 1) : Nat) : Int)) = decide (ex v k l < 0) by rw [decide_eq_decide]; unfold ex; omega]
   exact fin_e _
  ·rw [if_neg c2]
   refine evF (bF c2) ?_
   by_cases c3 : κ = 3
   ·subst c3
    rw [if_pos rfl]
    refine evT (bT rfl) (Ev.bind (symm_e h) ?_)
    obtain ⟨h1, h2, h3, h4, h5⟩ := h
    unfold sqR
    by_cases he : ex v k l = 0
    ·rw [decide_eq_true he, Bool.true_and]
     refine evT rfl ?_
     show Ev (fun j => if (Go.Vx.divF BinOp.rem IntKind.i64 (v : Int) ((2 : Nat) : Int) == 0) = true then (Option.bind (plexusref22_Square.m j (IntKind.wrap IntKind.i64 ((k : Int) - (l : Int)))) fun (r155 : Bool) => (if (!!r155) = true then some (240 : Int) else some (0))) else some (240)) _
     rw [rem2 (c := 0) (d := 0) rfl 2, hk]
     by_cases hv : v % 2 = 0
     ·rw [decide_eq_true hv, Bool.true_and]
      exact evT rfl (Ev.bind (rsquare_e (by omega)) (fin_e _))
     ·rw [decide_eq_false hv, Bool.false_and]
      exact evF (by decide) (Ev.now _)
    ·rw [decide_eq_false he, Bool.false_and]
     exact evF (by decide) (Ev.now _)
   ·rw [if_neg c3]
    refine evF (bF c3) ?_
    by_cases c4 : κ = 4
    ·subst c4
     rw [if_pos rfl]
     refine evT (bT rfl) (Ev.bind (symm_e h) ?_)
     have no : ∀ b : Bool, b = false → Ev (fun j => plexusref24_Check.j0 j (2, (v : Int), (k : Int), (l : Int)) (4, n, q) b) 240 := fun b hb => by
      subst hb
      exact evX (fun j => plexusref24_Check.j0_eq j _ _ _) (evF (by decide) (Ev.now _))
     by_cases he : ex v k l = 0
     ·rw [decide_eq_true he]
      refine evT rfl ?_
      show Ev (fun j => plexusref24_Check.j0 j (2, (v : Int), (k : Int), (l : Int)) (4, n, q) (Go.Vx.divF BinOp.rem IntKind.i64 (v : Int) ((2 : Nat) : Int) == 1)) _
      rw [rem2 (c := 1) (d := 1) rfl 2]
      by_cases hv : v % 2 = 1
      ·have ho : odB v k l = true := odB_iff.2 ⟨he, hv⟩
       obtain ⟨l1, l2⟩ := Lt_sides h ho
       show Ev _ (if locB v k l q = true then 0 else 240)
       unfold locB
       rw [ho, Bool.true_and]
       refine evX (fun j => plexusref24_Check.j0_eq j _ _ _) (evT (dT hv) (Ev.bind (rsides_e h hv) (Ev.bind (rHilbert_e l1 l2) ?_)))
       show Ev (fun j => if ((HA ((k : Int) - l) (sdv v l) q).2 == 0) = true then (if (!(HA ((k : Int) - l) (sdv v l) q).1 == -1) = true then some (240 : Int) else some 0) else some 240) _
       by_cases hb : (HA ((k : Int) - l) (sdv v l) q).2 = 0
       ·rw [decide_eq_true hb, Bool.true_and]
        refine evT (bT hb) ?_
        rw [show decide ((HA ((k : Int) - l) (sdv v l) q).1 = -1) = ((HA ((k : Int) - l) (sdv v l) q).1 == -1) by rw [Bool.eq_iff_iff, beq_iff_eq, decide_eq_true_iff]]
        exact fin_e _
       ·rw [decide_eq_false hb, Bool.false_and]
        exact evF (bF hb) (Ev.now _)
      ·have ho : odB v k l = false := by
        cases hq : odB v k l with
        | false => rfl
        | true => exact absurd (odB_iff.1 hq).2 hv
       show Ev _ (if locB v k l q = true then 0 else 240)
       unfold locB
       rw [ho, Bool.false_and]
       exact no _ (decide_eq_false hv)
     ·have ho : odB v k l = false := by
       cases hq : odB v k l with
       | false => rfl
       | true => exact absurd (odB_iff.1 hq).1 he
      show Ev _ (if locB v k l q = true then 0 else 240)
      unfold locB
      rw [ho, Bool.false_and, decide_eq_false he]
      exact evF (by decide) (no _ rfl)
    ·rw [if_neg c4]
     exact evF (bF c4) (Ev.now _)
theorem rcheck_F {p : Int × Int × Int × Int} (h : ¬ RP p) (r : Int × Int × Int) : Ev (fun j => plexusref24_Check.m j p r) 1 :=
 evX (fun j => plexusref24_Check.m_eq j _ _) (Ev.bind (rright_F h) (evT (nT (by decide)) (Ev.now _)))
end Go.Proofs.YtokaigninenjhaaQ

namespace Go.Proofs.YtokaigninenjhaaQ
set_option linter.unusedVariables false
set_option linter.unusedSimpArgs false
open Go Go.RowKit Go.Proofs.Ytokaigninenjhaa.P22 Go.Proofs.Ytokaigninenjhaa.V22 Go.Proofs.YtokaigninenjhaaW.PrintWords Go.Proofs.YtokaigninenjhaaW.PrintLast Go.Proofs.YtokaigninenjhaaW.PrintMore
def prsL (i m : Nat) : List Nat := (List.range' i m).filter fun p => pB (p : Int)
theorem prsL_succ (i m : Nat) : prsL i (m + 1) = (if pB (i : Int) = true then [i] else []) ++ prsL (i + 1) m := by
 unfold prsL
 rw [List.range'_succ, List.filter_cons]
 split <;> rfl
def locR (p : Nat) : Int × Int × Int := (4, 0, (p : Int))
def base5 : List (Int × Int × Int) := [(1, 0, 0), (1, 1, 0), (2, 0, 0), (3, 0, 0), (4, 0, 0)]
def allL : List (Int × Int × Int) := base5 ++ (prsL 2 199).map locR
theorem all_l0 : ∀ (m i : Nat) (acc : List (Int × Int × Int)), i + m = 201 → 2 ≤ i → acc.length ≤ 5 + i → Ev2 (fun n k => plexusref24_All.l0 n k (i : Int) acc) (acc ++ (prsL i m).map locR)
 | 0, i, acc, hi, h2, hl => by
  refine Ev2.step (fun n k => plexusref24_All.l0_succ n k _ _) (ev2F (dF (by omega)) ?_)
  rw [show (prsL i 0).map locR = [] from rfl, List.append_nil]
  exact Ev2.now _
 | m + 1, i, acc, hi, h2, hl => by
  refine Ev2.step (fun n k => plexusref24_All.l0_succ n k _ _) (ev2T (dT (by omega)) (Ev2.bind (place_any _) ?_))
  rw [show (i : Int) + 1 = ((i + 1 : Nat) : Int) by omega, i64n (by omega)]
  cases hp : pB (i : Int) with
  | true =>
   rw [decide_eq_true (show (i : Int) = 0 ∨ ((i : Int) ≤ 1000 ∧ (true : Bool) = true) from .inr ⟨by omega, rfl⟩)]
   refine ev2T rfl (ev2T (by show ((acc.length : Nat) + 1) * 24 ≤ 140737488355328; omega) ?_)
   have := all_l0 m (i + 1) (acc ++ [locR i]) (by omega) (by omega) (by rw [List.length_append]; show acc.length + 1 ≤ _; omega)
   rw [List.append_assoc] at this
   rw [prsL_succ, if_pos hp, List.map_append]
   exact this
  | false =>
   rw [decide_eq_false (show ¬ ((i : Int) = 0 ∨ ((i : Int) ≤ 1000 ∧ (false : Bool) = true)) from fun q => by rcases q with q | q <;> first | omega | cases q.2)]
   refine ev2F (by decide) ?_
   have := all_l0 m (i + 1) acc (by omega) (by omega) (by omega)
   rw [prsL_succ, if_neg (by rw [hp]; decide), List.nil_append]
   exact this
theorem all_e : Ev (fun k => plexusref24_All.m k) allL := by
 refine evX (fun k => plexusref24_All.m_eq k) ?_
 suffices z : Ev2 (fun n k => plexusref24_All.l0 n k ((2 : Nat) : Int) base5) allL from z.diag
 exact all_l0 199 2 base5 (by decide) (by decide) (by decide)
theorem allL_len : allL.length ≤ 1000 := by
 unfold allL prsL
 rw [List.length_append, List.length_map]
 have := List.length_filter_le (fun p : Nat => pB (p : Int)) (List.range' 2 199)
 rw [List.length_range'] at this
 have : base5.length = 5 := rfl
 omega
def whyF (o : Option (Int × Int × Int)) : (Int × Int × Int) × Int :=
 match o with
 | some r => (r, 0)
 | none => ((0, 0, 0), 4)
def whyV (v k l : Nat) : (Int × Int × Int) × Int := whyF (allL.find? (ChkB v k l))
theorem whyin_l0 {v k l : Nat} (h : RN v k l) (L : List (Int × Int × Int)) (hL : L.length ≤ 1000) : ∀ (m i : Nat), i + m = L.length →
  Ev2 (fun n j => plexusref24_WhyIn.l0 n j (2, (v : Int), (k : Int), (l : Int)) L (i : Int)) (whyF ((L.drop i).find? (ChkB v k l)))
 | 0, i, hi => by
  refine Ev2.step (fun n j => plexusref24_WhyIn.l0_succ n j _ _ _) (ev2F (dF (by omega)) ?_)
  rw [List.drop_eq_nil_of_le (by omega)]
  exact Ev2.now _
 | m + 1, i, hi => by
  have hlt : i < L.length := by omega
  have hget : List.getD L (Int.toNat (i : Int)) ((Int.ofNat 0, Int.ofNat 0, Int.ofNat 0) : Int × Int × Int) = L[i] := by
   rw [Int.toNat_natCast, List.getD_eq_getElem?_getD, List.getElem?_eq_getElem hlt]; rfl
  refine Ev2.step (fun n j => plexusref24_WhyIn.l0_succ n j _ _ _) (ev2T (dT (by omega)) (ev2T (by omega) (ev2T (by omega) ?_)))
  rw [hget]
  refine Ev2.bind (rcheck_e h (L[i].fst, L[i].snd.fst, L[i].snd.snd)) ?_
  rw [List.drop_eq_getElem_cons hlt]
  show Ev2 (fun n j => _) (whyF (List.find? (ChkB v k l) (L[i] :: L.drop (i + 1))))
  cases hc : ChkB v k l L[i] with
  | true =>
   rw [List.find?_cons_of_pos hc]
   exact ev2T (by decide) (ev2T (by omega) (ev2T (by omega) (Ev2.now _)))
  | false =>
   rw [List.find?_cons_of_neg (by rw [hc]; decide)]
   refine ev2F (by decide) ?_
   rw [show (i : Int) + 1 = ((i + 1 : Nat) : Int) by omega, i64n (by omega)]
   exact whyin_l0 h L hL m (i + 1) (by omega)
theorem whyin_e {v k l : Nat} (h : RN v k l) : Ev (fun j => plexusref24_WhyIn.m j (2, (v : Int), (k : Int), (l : Int))) (whyV v k l) := by
 refine evX (fun j => plexusref24_WhyIn.m_eq j _) (Ev.bind (rright_T h.rp) (evF (nF rfl) (Ev.bind all_e ?_)))
 suffices z : Ev2 (fun n j => plexusref24_WhyIn.l0 n j (2, (v : Int), (k : Int), (l : Int)) allL ((0 : Nat) : Int)) (whyV v k l) from z.diag
 exact whyin_l0 h allL allL_len allL.length 0 (by omega)
theorem whyin_F {p : Int × Int × Int × Int} (h : ¬ RP p) : Ev (fun j => plexusref24_WhyIn.m j p) ((0, 0, 0), 1) :=
 evX (fun j => plexusref24_WhyIn.m_eq j _) (Ev.bind (rright_F h) (evT (nT (by decide)) (Ev.now _)))
theorem rules1_e {v k l : Nat} (h : RN v k l) : Ev (fun j => exclude_rules_1.m j (2, (v : Int), (k : Int), (l : Int))) (if dvB v k l 0 = true then ((1, 0, 0), true) else if dvB v k l 1 = true then ((1, 1, 0), true) else ((0, 0, 0), false)) := by
 refine evX (fun j => exclude_rules_1.m_eq j _) ?_
 suffices z : Ev2 (fun n j => exclude_rules_1.l0 n j (2, (v : Int), (k : Int), (l : Int)) 0) (if dvB v k l 0 = true then ((1, 0, 0), true) else if dvB v k l 1 = true then ((1, 1, 0), true) else ((0, 0, 0), false)) from z.diag
 refine Ev2.step (fun n j => exclude_rules_1.l0_succ n j _ _) (ev2T (by decide) (Ev2.bind (divides_e h (1, 0, 0)) ?_))
 by_cases d0 : dvB v k l 0 = true
 ·rw [if_pos d0]
  exact ev2T d0 (Ev2.now _)
 ·rw [if_neg d0]
  refine ev2F d0 ?_
  show Ev2 (fun n j => exclude_rules_1.l0 n j (2, (v : Int), (k : Int), (l : Int)) 1) _
  refine Ev2.step (fun n j => exclude_rules_1.l0_succ n j _ _) (ev2T (by decide) (Ev2.bind (divides_e h (1, 1, 0)) ?_))
  by_cases d1 : dvB v k l 1 = true
  ·rw [if_pos d1]
   exact ev2T d1 (Ev2.now _)
  ·rw [if_neg d1]
   refine ev2F d1 ?_
   show Ev2 (fun n j => exclude_rules_1.l0 n j (2, (v : Int), (k : Int), (l : Int)) 2) _
   exact Ev2.step (fun n j => exclude_rules_1.l0_succ n j _ _) (ev2F (by decide) (Ev2.now _))
theorem find_first {α : Type} (f : α → Bool) (g : Nat → α) : ∀ {L : List Nat} {p : Nat}, L.Pairwise (· < ·) → p ∈ L → f (g p) = true → (∀ q ∈ L, q < p → f (g q) = false) → (L.map g).find? f = some (g p)
 | a :: L, p, hs, hp, hf, hb => by
  rw [List.map_cons]
  rcases List.mem_cons.1 hp with rfl | hp'
  ·exact List.find?_cons_of_pos hf
  ·have hlt := List.rel_of_pairwise_cons hs hp'
   rw [List.find?_cons_of_neg (by rw [hb a (List.mem_cons_self ..) hlt]; decide)]
   exact find_first f g (List.Pairwise.of_cons hs) hp' hf fun q hq => hb q (List.mem_cons_of_mem _ hq)
theorem find_none {α : Type} (f : α → Bool) (g : Nat → α) (L : List Nat) (h : ∀ q ∈ L, f (g q) = false) : (L.map g).find? f = none := by
 rw [List.find?_eq_none]
 intro x hx
 obtain ⟨q, hq, rfl⟩ := List.mem_map.1 hx
 rw [h q hq]; decide
def plcs : List Nat := 0 :: prsL 2 199
theorem plcs_sorted : plcs.Pairwise (· < ·) := by
 unfold plcs prsL
 refine List.Pairwise.cons (fun q hq => ?_) (List.Pairwise.filter _ (List.pairwise_lt_range'))
 have := List.mem_range'_1.1 (List.mem_filter.1 hq).1
 omega
theorem plcs_mem {p : Nat} (h : p = 0 ∨ (2 ≤ p ∧ p ≤ 200 ∧ pB (p : Int) = true)) : p ∈ plcs := by
 unfold plcs prsL
 rcases h with rfl | ⟨h1, h2, h3⟩
 ·exact List.mem_cons_self ..
 ·exact List.mem_cons_of_mem _ (List.mem_filter.2 ⟨List.mem_range'_1.2 (by omega), h3⟩)
theorem locB_rel {v k l : Nat} (h : RN v k l) {q : Int} (hq : locB v k l q = true) : odB v k l = true ∧ ∃ p : Nat, q = p ∧ Rel p ((k : Int) - l) (sdv v l) ∧ Hm p ((k : Int) - l) (sdv v l) = -1 := by
 unfold locB at hq
 simp only [Bool.and_eq_true, decide_eq_true_eq] at hq
 obtain ⟨ho, h1, h2⟩ := hq
 obtain ⟨l1, l2⟩ := Lt_sides h ho
 obtain ⟨p, e1, e2, e3, _⟩ := HA_nrel l1 l2 h2
 exact ⟨ho, p, e1, e2, e3⟩
theorem rel_pl {p : Nat} {a b : Int} (h : Rel p a b) : Pl p := by
 rcases h with h | h | h
 ·exact .inl h
 ·exact .inr (.inl h)
 ·exact .inr (.inr h.1)
theorem locB_of {v k l : Nat} (ho : odB v k l = true) {p : Nat} (hr : Rel p ((k : Int) - l) (sdv v l)) (hm : Hm p ((k : Int) - l) (sdv v l) = -1) : locB v k l (p : Int) = true := by
 unfold locB
 rw [HA_pl (rel_pl hr), ho, hm]; rfl
theorem rel_plcs {p : Nat} {a b : Int} (h : Rel p a b) : p ∈ plcs := by
 refine plcs_mem ?_
 have hle := h.le
 rcases h with h | h | h
 ·exact .inl h
 ·exact .inr ⟨by omega, by omega, pl_pB (.inl h)⟩
 ·have hb := pl_pB (q := p) (.inr h.1)
  refine .inr ⟨?_, by omega, hb⟩
  unfold pB at hb
  rw [Bool.and_eq_true, decide_eq_true_eq] at hb
  omega
theorem rules5_e {v k l : Nat} (h : RN v k l) : ∃ r : (Int × Int × Int) × Bool, Ev (fun j => exclude_rules_5.m j (2, (v : Int), (k : Int), (l : Int))) r ∧ (plcs.map locR).find? (ChkB v k l) = (if r.2 = true then some r.1 else none) := by
 have hc : ∀ q : Nat, ChkB v k l (locR q) = locB v k l (q : Int) := fun q => by unfold ChkB locR; simp
 cases ho : odB v k l with
 | false =>
  refine ⟨((0, 0, 0), false), evX (fun j => exclude_rules_5.m_eq j _) (Ev.bind (odd_e h) (evT (by rw [ho]; rfl) (Ev.now _))), ?_⟩
  refine (find_none _ _ _ fun q hq => ?_).trans rfl
  rw [hc]
  unfold locB
  rw [ho]; rfl
 | true =>
  obtain ⟨l1, l2⟩ := Lt_sides h ho
  obtain ⟨c, e1, hs⟩ := solve_e l1 l2
  have hev : Ev (fun j => exclude_rules_5.m j (2, (v : Int), (k : Int), (l : Int))) ((4, 0, c.2.2), !c.1) :=
   evX (fun j => exclude_rules_5.m_eq j _) (Ev.bind (odd_e h) (evF (by rw [ho]; decide) (Ev.bind (sides_e h) (Ev.bind e1 (evT (bT rfl) (Ev.now _))))))
  refine ⟨_, hev, ?_⟩
  rcases hs with ⟨p, rfl, hp2, hr, hm, hj⟩ | ⟨hj, w, _, rfl⟩
  ·show _ = some (4, 0, (p : Int))
   refine find_first _ locR plcs_sorted (rel_plcs hr) (by rw [hc]; exact locB_of ho hr hm) fun q hq hlt => ?_
   rw [hc]
   cases hb : locB v k l (q : Int) with
   | false => rfl
   | true =>
    obtain ⟨_, p', e, hr', hm'⟩ := locB_rel h hb
    obtain rfl : q = p' := by omega
    exact absurd hm' (hj q hlt hr')
  ·show _ = none
   refine find_none _ _ _ fun q hq => ?_
   rw [hc]
   cases hb : locB v k l (q : Int) with
   | false => rfl
   | true =>
    obtain ⟨_, p', e, hr', hm'⟩ := locB_rel h hb
    exact absurd hm' (hj p' hr')
theorem allL_eq : allL = (1, 0, 0) :: (1, 1, 0) :: (2, 0, 0) :: (3, 0, 0) :: plcs.map locR := rfl
theorem why0_e {v k l : Nat} (h : RN v k l) : Ev (fun j => exclude_Why.m j (2, (v : Int), (k : Int), (l : Int))) (whyV v k l) := by
 refine evX (fun j => exclude_Why.m_eq j _) (Ev.bind (right_T h.rp) (evF (nF rfl) ?_))
 obtain ⟨r5, e5, f5⟩ := rules5_e h
 have c10 : ChkB v k l (1, 0, 0) = dvB v k l 0 := rfl
 have c11 : ChkB v k l (1, 1, 0) = dvB v k l 1 := rfl
 have c2 : ChkB v k l (2, 0, 0) = decide (ex v k l < 0) := rfl
 have c3 : ChkB v k l (3, 0, 0) = sqR v k l := rfl
 unfold whyV
 rw [allL_eq]
 suffices z : Ev2 (fun n j => exclude_Why.l0 n j (2, (v : Int), (k : Int), (l : Int)) 0) (whyF (List.find? (ChkB v k l) ((1, 0, 0) :: (1, 1, 0) :: (2, 0, 0) :: (3, 0, 0) :: plcs.map locR))) from z.diag
 refine Ev2.step (fun n j => exclude_Why.l0_succ n j _ _) (ev2T (by decide) (ev2T (by decide) (Ev2.bind (rules1_e h) ?_)))
 by_cases d0 : dvB v k l 0 = true
 ·rw [if_pos d0, List.find?_cons_of_pos (by rw [c10]; exact d0)]
  exact ev2T rfl (Ev2.now _)
 ·rw [if_neg d0, List.find?_cons_of_neg (by rw [c10]; exact d0)]
  by_cases d1 : dvB v k l 1 = true
  ·rw [if_pos d1, List.find?_cons_of_pos (by rw [c11]; exact d1)]
   exact ev2T rfl (Ev2.now _)
  ·rw [if_neg d1, List.find?_cons_of_neg (by rw [c11]; exact d1)]
   refine ev2F (by decide) ?_
   show Ev2 (fun n j => exclude_Why.l0 n j (2, (v : Int), (k : Int), (l : Int)) 1) _
   refine Ev2.step (fun n j => exclude_Why.l0_succ n j _ _) (ev2T (by decide) (ev2F (by decide) (ev2T (by decide) (Ev2.bind (rules2_e h) ?_))))
   by_cases d2 : decide (ex v k l < 0) = true
   ·rw [List.find?_cons_of_pos (by rw [c2]; exact d2)]
    exact ev2T d2 (Ev2.now _)
   ·rw [List.find?_cons_of_neg (by rw [c2]; exact d2)]
    refine ev2F d2 ?_
    show Ev2 (fun n j => exclude_Why.l0 n j (2, (v : Int), (k : Int), (l : Int)) 2) _
    refine Ev2.step (fun n j => exclude_Why.l0_succ n j _ _) (ev2T (by decide) (ev2F (by decide) (ev2F (by decide) (ev2T (by decide) (Ev2.bind (rules3_e h) ?_)))))
    by_cases d3 : sqR v k l = true
    ·rw [List.find?_cons_of_pos (by rw [c3]; exact d3)]
     exact ev2T d3 (Ev2.now _)
    ·rw [List.find?_cons_of_neg (by rw [c3]; exact d3)]
     refine ev2F d3 ?_
     show Ev2 (fun n j => exclude_Why.l0 n j (2, (v : Int), (k : Int), (l : Int)) 3) _
     refine Ev2.step (fun n j => exclude_Why.l0_succ n j _ _) (ev2T (by decide) (ev2F (by decide) (ev2F (by decide) (ev2F (by decide) (ev2T (by decide) (Ev2.bind e5 ?_))))))
     rw [f5]
     by_cases d5 : r5.2 = true
     ·rw [if_pos d5]
      exact ev2T d5 (Ev2.now _)
     ·rw [if_neg d5]
      refine ev2F d5 ?_
      show Ev2 (fun n j => exclude_Why.l0 n j (2, (v : Int), (k : Int), (l : Int)) 4) _
      exact Ev2.step (fun n j => exclude_Why.l0_succ n j _ _) (ev2F (by decide) (Ev2.now _))
theorem why0_F {p : Int × Int × Int × Int} (h : ¬ RP p) : Ev (fun j => exclude_Why.m j p) ((0, 0, 0), 1) :=
 evX (fun j => exclude_Why.m_eq j _) (Ev.bind (right_F h) (evT (nT (by decide)) (Ev.now _)))
theorem why_e {v k l : Nat} (h : RN v k l) : Ev (fun j => plexuslaw24_why.m j (2, (v : Int), (k : Int), (l : Int))) (whyV v k l) :=
 evX (fun j => plexuslaw24_why.m_eq j _) (Ev.bind (why0_e h) (Ev.now _))
theorem why_F {p : Int × Int × Int × Int} (h : ¬ RP p) : Ev (fun j => plexuslaw24_why.m j p) ((0, 0, 0), 1) :=
 evX (fun j => plexuslaw24_why.m_eq j _) (Ev.bind (why0_F h) (Ev.now _))
theorem whyV_open {v k l : Nat} : (whyV v k l).2 = 4 ↔ ∀ r ∈ allL, ChkB v k l r = false := by
 unfold whyV
 cases hf : allL.find? (ChkB v k l) with
 | none =>
  rw [List.find?_eq_none] at hf
  exact ⟨fun _ r hr => (by simpa using hf r hr), fun _ => rfl⟩
 | some r =>
  refine ⟨fun q => (by cases q), fun q => ?_⟩
  have := List.find?_some hf
  rw [q r (List.mem_of_find?_eq_some hf)] at this
  cases this
def opn (v k : Nat) : Nat → Nat → List Int
 | _, 0 => []
 | i, m + 1 => (if (whyV v k i).2 = 4 then [(i : Int)] else []) ++ opn v k (i + 1) m
theorem open_l0 {v k : Nat} (h : RN v k 1) (M : Nat) (hM : M ≤ 20) : ∀ (m i : Nat) (acc : List Int), i + m = M + 1 → 1 ≤ i → acc.length ≤ i →
  Ev2 (fun n j => exclude_Open.l0 n j (v : Int) (k : Int) (M : Int) (i : Int) acc) (acc ++ opn v k i m, 0) ∧ Ev2 (fun n j => plexusref24_OpenIn.l0 n j (v : Int) (k : Int) (M : Int) (i : Int) acc) (acc ++ opn v k i m, 0)
 | 0, i, acc, hi, h1, hl => by
  unfold opn
  rw [List.append_nil]
  exact ⟨Ev2.step (fun n j => exclude_Open.l0_succ n j _ _ _ _ _) (ev2F (dF (by omega)) (Ev2.now _)), Ev2.step (fun n j => plexusref24_OpenIn.l0_succ n j _ _ _ _ _) (ev2F (dF (by omega)) (Ev2.now _))⟩
 | m + 1, i, acc, hi, h1, hl => by
  have hR : RN v k i := by
   obtain ⟨a, b, c, d, e⟩ := h
   exact ⟨a, b, c, h1, by omega⟩
  have hs : IntKind.wrap IntKind.i64 ((i : Int) + 1) = ((i + 1 : Nat) : Int) := by
   rw [show (i : Int) + 1 = ((i + 1 : Nat) : Int) by omega, i64n (by omega)]
  unfold opn
  by_cases hw : (whyV v k i).2 = 4
  ·rw [if_pos hw, ← List.append_assoc]
   obtain ⟨z1, z2⟩ := open_l0 h M hM m (i + 1) (acc ++ [(i : Int)]) (by omega) (by omega) (by rw [List.length_append]; show acc.length + 1 ≤ _; omega)
   refine ⟨Ev2.step (fun n j => exclude_Open.l0_succ n j _ _ _ _ _) (ev2T (dT (by omega)) (Ev2.bind (why0_e hR) (ev2T (bT hw) (ev2T (by show ((acc.length : Nat) + 1) * 8 ≤ 140737488355328; omega) ?_)))), Ev2.step (fun n j => plexusref24_OpenIn.l0_succ n j _ _ _ _ _) (ev2T (dT (by omega)) (Ev2.bind (whyin_e hR) (ev2T (bT hw) (ev2T (by show ((acc.length : Nat) + 1) * 8 ≤ 140737488355328; omega) ?_))))⟩
   ·rw [hs]; exact z1
   ·rw [hs]; exact z2
  ·rw [if_neg hw, List.nil_append]
   obtain ⟨z1, z2⟩ := open_l0 h M hM m (i + 1) acc (by omega) (by omega) (by omega)
   refine ⟨Ev2.step (fun n j => exclude_Open.l0_succ n j _ _ _ _ _) (ev2T (dT (by omega)) (Ev2.bind (why0_e hR) (ev2F (bF hw) ?_))), Ev2.step (fun n j => plexusref24_OpenIn.l0_succ n j _ _ _ _ _) (ev2T (dT (by omega)) (Ev2.bind (whyin_e hR) (ev2F (bF hw) ?_)))⟩
   ·rw [hs]; exact z1
   ·rw [hs]; exact z2
theorem open_T {v k : Nat} (h : RN v k 1) {M : Nat} (h1 : 1 ≤ M) (hM : M ≤ 20) : Ev (fun j => exclude_Open.m j (v : Int) (k : Int) (M : Int)) (opn v k 1 M, 0) ∧ Ev (fun j => plexusref24_OpenIn.m j (v : Int) (k : Int) (M : Int)) (opn v k 1 M, 0) := by
 obtain ⟨z1, z2⟩ := open_l0 h M hM M 1 [] (by omega) (by omega) (by decide)
 exact ⟨evX (fun j => exclude_Open.m_eq j _ _ _) (evF (dF (by omega)) (evF (dF (by omega)) (Ev.bind (right_T h.rp) (evF (nF rfl) z1.diag)))), evX (fun j => plexusref24_OpenIn.m_eq j _ _ _) (evF (dF (by omega)) (evF (dF (by omega)) (Ev.bind (rright_T h.rp) (evF (nF rfl) z2.diag))))⟩
theorem open_F {v k M : Int} (h : M < 1 ∨ M > 20 ∨ ¬ RP (2, v, k, 1)) : Ev (fun j => exclude_Open.m j v k M) ([], 1) ∧ Ev (fun j => plexusref24_OpenIn.m j v k M) ([], 1) := by
 constructor
 ·refine evX (fun j => exclude_Open.m_eq j _ _ _) ?_
  by_cases c1 : M < 1
  ·exact evT (dT c1) (Ev.now _)
  ·refine evF (dF c1) ?_
   by_cases c2 : M > 20
   ·exact evT (dT c2) (Ev.now _)
   ·exact evF (dF c2) (Ev.bind (right_F (by rcases h with q | q | q <;> first | omega | exact q)) (evT (nT (by decide)) (Ev.now _)))
 ·refine evX (fun j => plexusref24_OpenIn.m_eq j _ _ _) ?_
  by_cases c1 : M < 1
  ·exact evT (dT c1) (Ev.now _)
  ·refine evF (dF c1) ?_
   by_cases c2 : M > 20
   ·exact evT (dT c2) (Ev.now _)
   ·exact evF (dF c2) (Ev.bind (rright_F (by rcases h with q | q | q <;> first | omega | exact q)) (evT (nT (by decide)) (Ev.now _)))
end Go.Proofs.YtokaigninenjhaaQ
