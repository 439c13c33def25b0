/- Exclude: the fixed calls; symmetric parameters. -/
import Derived.Test.YtokaigninenjhaaQXc
import Derived.Test.YtokaigninenjhaaM24
import Derived.KernelRfl

namespace Go.Proofs.YtokaigninenjhaaQ
set_option linter.unusedVariables false
open Go Go.RowKit Go.Proofs.Ytokaigninenjhaa.P22 Go.Proofs.Ytokaigninenjhaa.V22 Go.Proofs.YtokaigninenjhaaW.PrintWords Go.Proofs.YtokaigninenjhaaW.PrintLast Go.Proofs.YtokaigninenjhaaW.PrintMore
theorem examples24 : Ev (fun k => plexuslaw24_examples.m k) true := by
 rw [plexuslaw24_examples.m_c]
 have key : ∀ j, plexuslaw24_examples.c (j + 300) = some true := fun j => by kernel_rfl
 exact ⟨300, fun k hk => by rw [show k = (k - 300) + 300 by omega]; exact key _⟩
end Go.Proofs.YtokaigninenjhaaQ

namespace Go.Proofs.YtokaigninenjhaaQ
set_option linter.unusedVariables false
set_option linter.unusedSimpArgs false
open Go Go.RowKit Go.Proofs.Ytokaigninenjhaa.P22 Go.Proofs.Ytokaigninenjhaa.V22 Go.Proofs.YtokaigninenjhaaW.PrintWords Go.Proofs.YtokaigninenjhaaW.PrintLast Go.Proofs.YtokaigninenjhaaW.PrintMore
theorem Sm_nat {n : Nat} (h0 : n ≠ 0) (h : n < 1000000) : Sm (n : Int) := ⟨by omega, by rw [Int.natAbs_natCast]; exact Nat.lt_of_lt_of_le h (by decide)⟩
theorem unit_eq {x y : Int} (hx : x = 1 ∨ x = -1) (hy : y = 1 ∨ y = -1) (h : x * y = 1) : x = y := by
 rcases hx with rfl | rfl <;> rcases hy with rfl | rfl <;> first | rfl | (exfalso; revert h; decide)
theorem sym_sq {v k l : Nat} (h : RN v k l) (he : ex v k l = 0) : ((k : Int) - l) + ((l * v : Nat) : Int) = (k : Int) * (k : Int) := by
 rw [ex_eq0] at he
 obtain ⟨h1, h2, h3, h4, h5⟩ := h
 obtain ⟨w, rfl⟩ : ∃ w, v = w + 1 := ⟨v - 1, by omega⟩
 obtain ⟨m, rfl⟩ : ∃ m, k = m + 1 := ⟨k - 1, by omega⟩
 rw [Nat.add_sub_cancel, Nat.add_sub_cancel] at he
 have e : ((l * w : Nat) : Int) = (((m + 1) * m : Nat) : Int) := by rw [he]
 simp only [Int.natCast_mul, Int.natCast_add, Int.natCast_one] at e ⊢
 grind
theorem HA_V {v k l : Nat} (h : RN v k l) (ho : odB v k l = true) (q : Int) : HA ((k : Int) - l) (sdv v l) q = HA ((k : Int) - l) (sdv v v) q := by
 have he := (odB_iff.1 ho).1
 have hlt := sym_lt h he
 have hs := sym_sq h he
 obtain ⟨hn, hl⟩ := Lt_sides h ho
 obtain ⟨h1, h2, h3, h4, h5⟩ := h
 have hlv : l * v ≤ 20 * 100 := Nat.mul_le_mul h5 h3
 have hlv0 : 0 < l * v := Nat.mul_pos (by omega) (by omega)
 have sn := hn.sm
 have sl : Sm (l : Int) := Sm_nat (by omega) (by omega)
 have sv : Sm (v : Int) := Sm_nat (by omega) (by omega)
 have slv : Sm ((l : Int) * (v : Int)) := by rw [← Int.natCast_mul]; exact Sm_nat (by omega) (by omega)
 have s1 : Sm (-1 : Int) := ⟨by decide, by decide⟩
 have hv : Lt (sdv v v) := by
  unfold sdv
  split <;> exact ⟨by omega, by omega, by omega⟩
 have key : ∀ p : Nat, Pl p → Hm p ((k : Int) - l) (sdv v l) = Hm p ((k : Int) - l) (sdv v v) := fun p hp => by
  have e1 : Hm p ((l : Int) * (v : Int)) ((k : Int) - l) = 1 := by
   rw [Hm_symm hp slv sn]
   exact Hm_sum hp sn slv (C := (k : Int)) (by rw [← Int.natCast_mul]; exact hs)
  rw [Hm_mul hp sl sv slv sn] at e1
  have e2 := unit_eq (Hm_unit hp sl sn) (Hm_unit hp sv sn) e1
  rw [Hm_symm hp sn hl.sm, Hm_symm hp sn hv.sm]
  unfold sdv
  split
  ·have sml : Sm (-1 * (l : Int)) := by rw [Int.neg_one_mul]; exact ⟨by omega, by rw [Int.natAbs_neg]; exact sl.2⟩
   have smv : Sm (-1 * (v : Int)) := by rw [Int.neg_one_mul]; exact ⟨by omega, by rw [Int.natAbs_neg]; exact sv.2⟩
   rw [← Int.neg_one_mul (l : Int), ← Int.neg_one_mul (v : Int), Hm_mul hp s1 sl sml sn, Hm_mul hp s1 sv smv sn, e2]
  ·exact e2
 unfold HA
 by_cases c : q = 0 ∨ (q ≤ 1000 ∧ pB q = true)
 ·rw [if_pos c, if_pos c]
  congr 1
  rcases c with rfl | ⟨c1, c2⟩
  ·exact key 0 (.inl rfl)
  ·have hq : 2 ≤ q := by
    have c3 := c2
    unfold pB at c3
    rw [Bool.and_eq_true, decide_eq_true_eq] at c3
    exact c3.1
   obtain ⟨p, rfl⟩ := Int.eq_ofNat_of_zero_le (a := q) (by omega)
   rw [Int.toNat_natCast]
   by_cases hp : p ≤ 200
   ·exact key p (.inr (pB_pl c2 hp))
   ·rw [Hm_units (by omega) sn hl.sm (far (by omega) hn) (far (by omega) hl), Hm_units (by omega) sn hv.sm (far (by omega) hn) (far (by omega) hv)]
 ·rw [if_neg c, if_neg c]
theorem sym_dv {v k l : Nat} (h : RN v k l) (he : ex v k l = 0) (n : Int) : dvB v k l n = false := by
 by_cases hn : n = 0 ∨ n = 1
 ·rw [dvB_iff h hn]
  rw [ex_eq0] at he
  unfold Dd Nn
  rcases hn with rfl | rfl
  ·rw [if_pos rfl, if_pos rfl, he, Nat.mul_comm (k - 1) k]
   exact Nat.dvd_mul_right _ _
  ·rw [if_neg (by decide), if_neg (by decide), he]
   exact Nat.dvd_mul_left _ _
 ·unfold dvB
  rw [decide_eq_false hn, Bool.false_and]
theorem near_ex {a : Int × Int × Int × Int} (h0 : 0 ≤ a.2.2.1) (h1 : a.2.2.1 < 256) : ∃ p, Ev (fun k => plexusref24_Near.m k a) p := by
 have loop : ∀ m : Nat, m ≤ 100 → ∃ p, Ev2 (fun n k => plexusref24_Near.l0 n k a ((m + 1 : Nat) : Int)) p := by
  intro m
  induction m with
  | zero =>
   intro _
   refine ⟨_, Ev2.step (fun n k => plexusref24_Near.l0_succ n k _ _) (ev2F (by omega) (ev2F (nF ?_) (ev2F (by omega) (Ev2.now _))))⟩
   rw [rem_tmod]
   exact Int.tmod_one _
  | succ m ih =>
   intro hm
   obtain ⟨p, hp⟩ := ih (by omega)
   by_cases hz : Go.Vx.divF BinOp.rem IntKind.i64 (IntKind.wrap IntKind.i64 (IntKind.wrap IntKind.i64 (2 + IntKind.wrap IntKind.i64 (Go.Vx.divF BinOp.rem IntKind.u8 a.snd.fst 12)) * IntKind.wrap IntKind.i64 (IntKind.wrap IntKind.i64 (2 + IntKind.wrap IntKind.i64 (Go.Vx.divF BinOp.rem IntKind.u8 a.snd.fst 12)) - 1))) ((m + 1 + 1 : Nat) : Int) = 0
   ·exact ⟨_, Ev2.step (fun n k => plexusref24_Near.l0_succ n k _ _) (ev2F (by omega) (ev2F (nF hz) (ev2F (by omega) (Ev2.now _))))⟩
   ·refine ⟨p, Ev2.step (fun n k => plexusref24_Near.l0_succ n k _ _) (ev2F (by omega) (ev2T (nT hz) ?_))⟩
    rw [show ((m + 1 + 1 : Nat) : Int) - 1 = ((m + 1 : Nat) : Int) by omega, i64n (by omega)]
    exact hp
 by_cases hz : Go.Vx.divF BinOp.rem IntKind.u8 a.snd.snd.snd 2 = 0
 ·obtain ⟨b, hb⟩ := Int.eq_ofNat_of_zero_le h0
  have e : IntKind.wrap IntKind.i64 (1 + IntKind.wrap IntKind.i64 (Go.Vx.divF BinOp.rem IntKind.u8 a.snd.snd.fst 6)) = ((b % 6 + 1 : Nat) : Int) := by
   rw [rem_tmod, Int.tmod_eq_emod_of_nonneg h0, hb, show ((b : Int) % 6) = ((b % 6 : Nat) : Int) by omega, i64n (by omega), show (1 : Int) + ((b % 6 : Nat) : Int) = ((b % 6 + 1 : Nat) : Int) by omega, i64n (by omega)]
  obtain ⟨p, hp⟩ := loop (b % 6) (by omega)
  refine ⟨p, evX (fun k => plexusref24_Near.m_eq k _) (evT (bT hz) ?_)⟩
  rw [e]
  exact hp.diag
 ·exact ⟨_, evX (fun k => plexusref24_Near.m_eq k _) (evF (bF hz) (Ev.now _))⟩
end Go.Proofs.YtokaigninenjhaaQ
