/- LocalMatchesReference: the Hilbert symbols of both. -/
import Derived.Test.YtokaigninenjhaaQMb
namespace Go.Proofs.YtokaigninenjhaaQ
set_option linter.unusedVariables false
set_option linter.unusedSimpArgs false
open Go Go.RowKit Go.Proofs.Ytokaigninenjhaa.P22 Go.Proofs.Ytokaigninenjhaa.V22 Go.Proofs.YtokaigninenjhaaW.PrintWords Go.Proofs.YtokaigninenjhaaW.PrintLast Go.Proofs.YtokaigninenjhaaW.PrintMore
theorem rsmall_any (a : Int) : Ev (fun k => plexusref22_Small.m k a) (decide (Lt a)) := by
  refine evX (fun k => plexusref22_Small.m_eq k _) ?_
  by_cases h0 : a = 0
  · refine evF (nF h0) ?_
    rw [decide_eq_false (fun q : Lt a => q.1 h0)]; exact Ev.now _
  · refine evT (nT h0) ?_
    by_cases h1 : -200 ≤ a
    · refine evT (dT h1) ?_
      have e : decide (a ≤ 200) = decide (Lt a) := by
        by_cases h2 : a ≤ 200
        · rw [decide_eq_true h2, decide_eq_true (show Lt a from ⟨h0, h1, h2⟩)]
        · rw [decide_eq_false h2, decide_eq_false (fun q : Lt a => h2 q.2.2)]
      rw [← e]; exact Ev.now _
    · refine evF (dF h1) ?_
      rw [decide_eq_false (fun q : Lt a => h1 q.2.1)]; exact Ev.now _
theorem place_any (q : Int) : Ev (fun k => plexusref22_Place.m k q) (decide (q = 0 ∨ (q ≤ 1000 ∧ pB q = true))) := by
  refine evX (fun k => plexusref22_Place.m_eq k _) ?_
  by_cases h0 : q = 0
  · rw [decide_eq_true (show q = 0 ∨ (q ≤ 1000 ∧ pB q = true) from .inl h0)]; exact evT (bT h0) (Ev.now _)
  · refine evF (bF h0) ?_
    by_cases h1 : q ≤ 1000
    · refine evT (dT h1) (Ev.bind (primes_any h1).2 ?_)
      have e : decide (q = 0 ∨ (q ≤ 1000 ∧ pB q = true)) = pB q := by
        cases hp : pB q with
        | true => exact decide_eq_true (.inr ⟨h1, rfl⟩)
        | false => exact decide_eq_false (by rintro (z | ⟨_, z⟩); exact h0 z; cases z)
      rw [e]; exact Ev.now _
    · rw [decide_eq_false (show ¬ (q = 0 ∨ (q ≤ 1000 ∧ pB q = true)) by rintro (z | ⟨z, _⟩); exact h0 z; exact h1 z)]
      exact evF (dF h1) (Ev.now _)
theorem flag_e (b : Bool) : Ev (fun k => plexusref22_flag.m k b) ((if b = true then 1 else 0 : Nat) : Int) := by
  refine evX (fun k => plexusref22_flag.m_eq k _) ?_
  cases b with
  | true => exact evT rfl (Ev.now _)
  | false => exact evF (by decide) (Ev.now _)
theorem power_e (a : Int) (e : Nat) : Ev (fun k => plexusref22_power.m k a (e : Int)) (if e % 2 = 0 then 1 else a) := by
  refine evX (fun k => plexusref22_power.m_eq k _ _) ?_
  have h : (Go.Vx.divF BinOp.rem IntKind.i64 (e : Int) 2 == 0) = decide (e % 2 = 0) := by
    rw [rem_tmod, Int.tmod_eq_emod_of_nonneg (by omega), Bool.eq_iff_iff, beq_iff_eq, decide_eq_true_iff]; omega
  by_cases he : e % 2 = 0
  · rw [if_pos he]; exact evT (by rw [h, decide_eq_true he]) (Ev.now _)
  · rw [if_neg he]; exact evF (by rw [h, decide_eq_false he]; decide) (Ev.now _)
theorem vlF_le (p : Int) : ∀ (n : Nat) (a : Int), (vlF p n a).1 ≤ n
  | 0, a => Nat.le_refl _
  | n + 1, a => by
    unfold vlF
    split
    · have := vlF_le p n (a / p); show (vlF p n (a / p)).1 + 1 ≤ n + 1; omega
    · exact Nat.zero_le _
theorem split_l0 {p : Nat} (hp : 2 ≤ p) (hp2 : p ≤ 1000) : ∀ (n : Nat) (a : Int) (i : Nat), a ≠ 0 → a.natAbs < 2 ^ n → n + i ≤ 100 → n ≤ 20 → Ev2 (fun m k => plexusref22_split.l0 m k (p : Int) (i : Int) a) (((i + (vlF p n a).1 : Nat) : Int), (vlF p n a).2)
  | 0, a, i, h0, h1, _, _ => by omega
  | n + 1, a, i, h0, h1, hi, hn => by
    have hb : a.natAbs < 2 ^ 20 := Nat.lt_of_lt_of_le h1 (Nat.pow_le_pow_right (by decide) hn)
    have p20 : (2 : Nat) ^ 20 = 1048576 := by decide
    unfold vlF
    have et : (Go.Vx.divF BinOp.rem IntKind.i64 a (p : Int) == 0) = decide (a % (p : Int) = 0) := by
      rw [rem_tmod, Bool.eq_iff_iff, beq_iff_eq, decide_eq_true_iff, ← Int.dvd_iff_tmod_eq_zero, ← Int.dvd_iff_emod_eq_zero]
    by_cases h : a % (p : Int) = 0
    · rw [if_pos h]
      have hd := Int.dvd_of_emod_eq_zero h
      have eq1 : Go.Vx.divF BinOp.quo IntKind.i64 a (p : Int) = a / (p : Int) := by
        show IntKind.i64.wrap (Int.tdiv a (p : Int)) = _
        have h5 : Int.tdiv a (p : Int) = a / (p : Int) := Int.tdiv_eq_ediv_of_dvd hd
        rw [h5, show IntKind.i64.wrap (a / (p : Int)) = wrap64 (a / (p : Int)) from wrap_i64' _]
        obtain ⟨c, rfl⟩ := hd
        rw [Int.mul_ediv_cancel_left _ (show (p : Int) ≠ 0 by omega)]
        obtain ⟨h2, h3⟩ := half_abs hp h0
        exact w64 (by omega) (by omega)
      obtain ⟨c, rfl⟩ := hd
      rw [Int.mul_ediv_cancel_left _ (show (p : Int) ≠ 0 by omega)] at eq1 ⊢
      obtain ⟨h2, h3⟩ := half_abs hp h0
      rw [Nat.pow_succ] at h1
      have ih := split_l0 hp hp2 n c (i + 1) h2 (by omega) (by omega) (by omega)
      refine Ev2.step (fun m k => plexusref22_split.l0_succ m k _ _ _) (ev2F (by omega) (ev2T (by rw [et]; exact decide_eq_true h) (ev2F (by omega) ?_)))
      rw [eq1, i64s (by omega)]
      rw [show i + 1 + (vlF (p : Int) n c).1 = i + ((vlF (p : Int) n c).1 + 1) by omega] at ih
      exact ih
    · rw [if_neg h]
      exact Ev2.step (fun m k => plexusref22_split.l0_succ m k _ _ _) (ev2F (by omega) (ev2F (by rw [et]; simp [h]) (Ev2.now _)))
theorem split_e {p : Nat} (hp : 2 ≤ p) (hp2 : p ≤ 1000) {a : Int} (ha : Sm a) : Ev (fun k => plexusref22_split.m k a (p : Int)) (((vl p a).1 : Int), (vl p a).2) := by
  refine evX (fun k => plexusref22_split.m_eq k _ _) ?_
  have := (split_l0 hp hp2 20 a 0 ha.1 ha.2 (by omega) (Nat.le_refl _)).diag
  rw [Nat.zero_add] at this
  exact this
/-! ### two -/
def fl (c : Prop) [Decidable c] : Nat := if c then 1 else 0
theorem fl_le (c : Prop) [Decidable c] : fl c ≤ 1 := by unfold fl; split <;> omega
def pw (e : Nat) : Int := if e % 2 = 0 then 1 else -1
theorem leaf {i k e1 e2 A B : Nat} (hi : i ≤ 20) (hk : k ≤ 20) (h1 : e1 ≤ 1) (h2 : e2 ≤ 1) (hA : A ≤ 1) (hB : B ≤ 1) :
    Ev (fun f => Option.bind (plexusref22_power.m f (-1) (IntKind.wrap IntKind.i64 (IntKind.wrap IntKind.i64 ((e1 : Int) * (e2 : Int)) + IntKind.wrap IntKind.i64 (IntKind.wrap IntKind.i64 ((i : Int) * (A : Int)) + IntKind.wrap IntKind.i64 ((k : Int) * (B : Int)))))) fun (r : Int) => some ((r, (0 : Int)))) (pw (e1 * e2 + (i * A + k * B)), 0) := by
  have m1 := Nat.mul_le_mul h1 h2
  have m2 := Nat.mul_le_mul hi hA
  have m3 := Nat.mul_le_mul hk hB
  have e : IntKind.wrap IntKind.i64 (IntKind.wrap IntKind.i64 ((e1 : Int) * (e2 : Int)) + IntKind.wrap IntKind.i64 (IntKind.wrap IntKind.i64 ((i : Int) * (A : Int)) + IntKind.wrap IntKind.i64 ((k : Int) * (B : Int)))) = ((e1 * e2 + (i * A + k * B) : Nat) : Int) := by
    simp only [← Int.natCast_mul]
    rw [i64n (n := e1 * e2) (by omega), i64n (n := i * A) (by omega), i64n (n := k * B) (by omega), ← Int.natCast_add, i64n (n := i * A + k * B) (by omega), ← Int.natCast_add, i64n (by omega)]
  rw [e]
  exact Ev.bind (power_e (-1) _) (Ev.now _)
theorem pw_h2 (i k : Nat) (u v : Int) : pw (fl (u % 4 = 3) * fl (v % 4 = 3) + (i * fl (v % 8 = 3 ∨ v % 8 = 5) + k * fl (u % 8 = 3 ∨ u % 8 = 5))) = h2 i u k v := by
  unfold h2 wv fl pw
  by_cases c1 : u % 4 = 3 <;> by_cases c2 : v % 4 = 3 <;> by_cases c3 : (v % 8 = 3 ∨ v % 8 = 5) <;> by_cases c4 : (u % 8 = 3 ∨ u % 8 = 5) <;> rcases Nat.mod_two_eq_zero_or_one i with hi | hi <;> rcases Nat.mod_two_eq_zero_or_one k with hk | hk <;> simp only [c1, c2, c3, c4, hi, hk, if_pos, if_neg, true_and, and_true, and_self, and_false, false_and, if_true, if_false, Nat.mul_one, Nat.mul_zero, Nat.zero_add, Nat.add_zero, Nat.zero_mul, Nat.one_mul, Int.mul_one, Int.one_mul] <;> first | rfl | (rw [if_pos (by omega)]; rfl) | (rw [if_neg (by omega)]; rfl) | (rw [if_pos (by omega)]; decide) | (rw [if_neg (by omega)]; decide)
/-! ### the odd primes -/
theorem rodd {p : Nat} (h3 : 3 ≤ p) (hp : p ≤ 1000) (ht : trb p = true) {i k : Nat} (hi : i ≤ 20) (hk : k ≤ 20) (u v : Int) :
    Ev (fun f => plexusref22_Hilbert.j0 f (p : Int) ((i : Int), u) ((k : Int), v) (if p % 4 = 3 then -1 else 1)) (ho p i u k v, 0) := by
  have hL : ∀ x, Lg p x = -1 ∨ Lg p x = 0 ∨ Lg p x = 1 := Lg_pm p
  have m2 := Nat.mul_le_mul hi hk
  have e0 : IntKind.wrap IntKind.i64 ((i : Int) * (k : Int)) = ((i * k : Nat) : Int) := by rw [← Int.natCast_mul, i64n (by omega)]
  refine evX (fun f => plexusref22_Hilbert.j0_eq f _ _ _ _) (Ev.bind (rleg_e h3 hp ht u) (Ev.bind (rleg_e h3 hp ht v) ?_))
  show Ev (fun f => Option.bind (plexusref22_power.m f (if p % 4 = 3 then -1 else 1) (IntKind.wrap IntKind.i64 ((i : Int) * (k : Int)))) fun (r260 : Int) => (Option.bind (plexusref22_power.m f (Lg p u) (k : Int)) fun (r265 : Int) => (Option.bind (plexusref22_power.m f (Lg p v) (i : Int)) fun (r271 : Int) => some ((IntKind.wrap IntKind.i64 (IntKind.wrap IntKind.i64 (r260 * r265) * r271), (0 : Int)))))) _
  rw [e0]
  refine Ev.bind (power_e _ _) (Ev.bind (power_e _ _) (Ev.bind (power_e _ _) ?_))
  have a1 : (if i * k % 2 = 0 then (1 : Int) else if p % 4 = 3 then -1 else 1) = if p % 4 = 3 ∧ i % 2 = 1 ∧ k % 2 = 1 then -1 else 1 := by
    have hm : i * k % 2 = (i % 2) * (k % 2) % 2 := Nat.mul_mod i k 2
    rcases Nat.mod_two_eq_zero_or_one i with hi | hi <;> rcases Nat.mod_two_eq_zero_or_one k with hk | hk <;> rw [hi, hk] at hm <;> by_cases h4 : p % 4 = 3 <;> simp [hi, hk, h4, hm]
  have a2 : ∀ (n : Nat) (x : Int), (if n % 2 = 0 then (1 : Int) else x) = if n % 2 = 1 then x else 1 := fun n x => by
    rcases Nat.mod_two_eq_zero_or_one n with h | h <;> simp [h]
  rw [a1, a2, a2]
  have p1 : (if p % 4 = 3 ∧ i % 2 = 1 ∧ k % 2 = 1 then (-1 : Int) else 1) = -1 ∨ (if p % 4 = 3 ∧ i % 2 = 1 ∧ k % 2 = 1 then (-1 : Int) else 1) = 0 ∨ (if p % 4 = 3 ∧ i % 2 = 1 ∧ k % 2 = 1 then (-1 : Int) else 1) = 1 := s_pm
  have p2 : (if k % 2 = 1 then Lg p u else 1) = -1 ∨ (if k % 2 = 1 then Lg p u else 1) = 0 ∨ (if k % 2 = 1 then Lg p u else 1) = 1 := if_pm (hL u)
  have p3 : (if i % 2 = 1 then Lg p v else 1) = -1 ∨ (if i % 2 = 1 then Lg p v else 1) = 0 ∨ (if i % 2 = 1 then Lg p v else 1) = 1 := if_pm (hL v)
  rw [w1 (pm_mul p1 p2), w1 (pm_mul (pm_mul p1 p2) p3)]
  exact Ev.now _
theorem rHilbert_e {a b q : Int} (ha : Lt a) (hb : Lt b) : Ev (fun k => plexusref22_Hilbert.m k a b q) (HA a b q) := by
  have sa := rsmall_any a
  have sb := rsmall_any b
  have sp := place_any q
  rw [decide_eq_true ha] at sa
  rw [decide_eq_true hb] at sb
  refine evX (fun k => plexusref22_Hilbert.m_eq k _ _ _) (Ev.bind sa (evF (by decide) (Ev.bind sb (evF (by decide) (Ev.bind sp ?_)))))
  unfold HA
  by_cases c : q = 0 ∨ (q ≤ 1000 ∧ pB q = true)
  · rw [if_pos c, decide_eq_true c]
    refine evF (by decide) ?_
    rcases c with c | ⟨c1, c2⟩
    · subst c
      refine evT rfl ?_
      show Ev _ (Hm 0 a b, 0)
      unfold Hm
      rw [if_pos rfl]
      by_cases h : a < 0
      · refine evT (dT h) (Ev.bind (flag_e _) (Ev.bind (power_e (-1) _) ?_))
        by_cases g : b < 0
        · simp [g, h]; exact Ev.now _
        · simp [g, h]; exact Ev.now _
      · refine evF (dF h) (Ev.bind (flag_e _) (Ev.bind (power_e (-1) _) ?_))
        simp [h]; exact Ev.now _
    · have hq2 : 2 ≤ q := by
        unfold pB at c2
        rw [Bool.and_eq_true, decide_eq_true_eq] at c2
        exact c2.1
      obtain ⟨p, rfl⟩ := Int.eq_ofNat_of_zero_le (show 0 ≤ q by omega)
      have ht : trb p = true := by
        unfold pB at c2
        rw [Bool.and_eq_true, Int.toNat_natCast] at c2
        exact c2.2
      rw [Int.toNat_natCast]
      have la : (vl p a).1 ≤ 20 := vlF_le _ _ _
      have lb : (vl p b).1 ≤ 20 := vlF_le _ _ _
      refine evF (bF (by omega)) (Ev.bind (split_e (by omega) (by omega) ha.sm) (Ev.bind (split_e (by omega) (by omega) hb.sm) ?_))
      unfold Hm
      rw [if_neg (by omega)]
      revert la lb
      by_cases p2 : p = 2
      · subst p2
        rw [if_pos rfl]
        generalize (vl 2 a).1 = i
        generalize (vl 2 a).2 = u
        generalize (vl 2 b).1 = k
        generalize (vl 2 b).2 = v
        intro la lb
        rw [← pw_h2]
        have m4 : ∀ x : Int, Ev (fun f => plexusref22_Mod.m f x 4) (x % 4) := fun x => rmod_e (p := 4) (by decide) (by decide)
        have m8 : ∀ x : Int, Ev (fun f => plexusref22_Mod.m f x 8) (x % 8) := fun x => rmod_e (p := 8) (by decide) (by decide)
        have f4 : ∀ x : Int, ((if (x % 4 == 3) = true then 1 else 0 : Nat) : Int) = ((fl (x % 4 = 3) : Nat) : Int) := fun x => by unfold fl; simp
        have f8 : ∀ x : Int, x % 8 ≠ 3 → ((if (x % 8 == 5) = true then 1 else 0 : Nat) : Int) = ((fl (x % 8 = 3 ∨ x % 8 = 5) : Nat) : Int) := fun x h => by unfold fl; simp [h]
        have f3 : ∀ x : Int, x % 8 = 3 → ((if true = true then 1 else 0 : Nat) : Int) = ((fl (x % 8 = 3 ∨ x % 8 = 5) : Nat) : Int) := fun x h => by unfold fl; simp [h]
        have g4 : ∀ x : Int, Ev (fun f => plexusref22_flag.m f (x % 4 == 3)) ((fl (x % 4 = 3) : Nat) : Int) := fun x => by rw [← f4]; exact flag_e _
        have g8 : ∀ x : Int, x % 8 ≠ 3 → Ev (fun f => plexusref22_flag.m f (x % 8 == 5)) ((fl (x % 8 = 3 ∨ x % 8 = 5) : Nat) : Int) := fun x h => by rw [← f8 x h]; exact flag_e _
        have g3 : ∀ x : Int, x % 8 = 3 → Ev (fun f => plexusref22_flag.m f true) ((fl (x % 8 = 3 ∨ x % 8 = 5) : Nat) : Int) := fun x h => by rw [← f3 x h]; exact flag_e _
        have lf := leaf la lb (fl_le (u % 4 = 3)) (fl_le (v % 4 = 3)) (fl_le (v % 8 = 3 ∨ v % 8 = 5)) (fl_le (u % 8 = 3 ∨ u % 8 = 5))
        refine evT rfl (Ev.bind (m4 u) (Ev.bind (g4 u) (Ev.bind (m4 v) (Ev.bind (g4 v) (Ev.bind (m8 v) ?_)))))
        by_cases v3 : v % 8 = 3
        · refine evT (bT v3) (Ev.bind (g3 v v3) (Ev.bind (m8 u) ?_))
          by_cases u3 : u % 8 = 3
          · exact evT (bT u3) (Ev.bind (g3 u u3) lf)
          · exact evF (bF u3) (Ev.bind (m8 u) (Ev.bind (g8 u u3) lf))
        · refine evF (bF v3) (Ev.bind (m8 v) (Ev.bind (g8 v v3) (Ev.bind (m8 u) ?_)))
          by_cases u3 : u % 8 = 3
          · exact evT (bT u3) (Ev.bind (g3 u u3) lf)
          · exact evF (bF u3) (Ev.bind (m8 u) (Ev.bind (g8 u u3) lf))
      · rw [if_neg p2]
        intro la lb
        have e4 : (Go.Vx.divF BinOp.rem IntKind.i64 (p : Int) 4 == 3) = decide (p % 4 = 3) := by
          rw [rem_tmod, Int.tmod_eq_emod_of_nonneg (by omega), Bool.eq_iff_iff, beq_iff_eq, decide_eq_true_iff]; omega
        have hj := rodd (p := p) (by omega) (by omega) ht la lb (vl p a).2 (vl p b).2
        refine evF (bF (by omega)) ?_
        by_cases h4 : p % 4 = 3
        · rw [if_pos h4] at hj
          exact evT (by rw [e4, decide_eq_true h4]) hj
        · rw [if_neg h4] at hj
          exact evF (by rw [e4, decide_eq_false h4]; decide) hj
  · rw [if_neg c, decide_eq_false c]
    exact evT rfl (Ev.now _)
theorem rhilbert_big {a b : Int} (h : ¬ Lt a ∨ ¬ Lt b) (q : Int) : Ev (fun k => plexusref22_Hilbert.m k a b q) (0, 1) := by
  refine evX (fun k => plexusref22_Hilbert.m_eq k _ _ _) (Ev.bind (rsmall_any a) ?_)
  by_cases ha : Lt a
  · rw [decide_eq_true ha]
    refine evF (by decide) (Ev.bind (rsmall_any b) ?_)
    rw [decide_eq_false (h.resolve_left (fun q => q ha))]
    exact evT rfl (Ev.now _)
  · rw [decide_eq_false ha]
    exact evT rfl (Ev.now _)
theorem hil_both (a b q : Int) : ∃ v, Ev (fun k => local_Hilbert.m k a b q) v ∧ Ev (fun k => plexusref22_Hilbert.m k a b q) v := by
  by_cases ha : Lt a
  · by_cases hb : Lt b
    · exact ⟨_, HilbertA_e ha hb, rHilbert_e ha hb⟩
    · exact ⟨_, hilbert_big (.inr hb) q, rhilbert_big (.inr hb) q⟩
  · exact ⟨_, hilbert_big (.inl ha) q, rhilbert_big (.inl ha) q⟩
end Go.Proofs.YtokaigninenjhaaQ
