/- Local: Hilbert at every place, Check and Solve. -/
import Derived.Test.YtokaigninenjhaaQB
namespace Go.Proofs.YtokaigninenjhaaQ
set_option linter.unusedVariables false
set_option linter.unusedSimpArgs false
open Go Go.RowKit Go.Proofs.Ytokaigninenjhaa.P22 Go.Proofs.Ytokaigninenjhaa.V22 Go.Proofs.YtokaigninenjhaaW.PrintWords Go.Proofs.YtokaigninenjhaaW.PrintLast Go.Proofs.YtokaigninenjhaaW.PrintMore
/-! ### three rounds -/
def Ev3 {α : Type} (g : Nat → Nat → Nat → Option α) (r : α) : Prop := ∃ K, ∀ m n k, K ≤ m → K ≤ n → K ≤ k → g m n k = some r
theorem Ev3.of {α : Type} {g : Nat → Nat → Option α} {r : α} (h : Ev2 g r) : Ev3 (fun _ n k => g n k) r := by
  obtain ⟨K, h⟩ := h
  exact ⟨K, fun m n k _ h2 h3 => h n k h2 h3⟩
theorem Ev3.diag {α : Type} {g : Nat → Nat → Nat → Option α} {r : α} (h : Ev3 g r) : Ev2 (fun n k => g k n k) r := by
  obtain ⟨K, h⟩ := h
  exact ⟨K, fun n k h2 h3 => h k n k h3 h2 h3⟩
theorem Ev3.step {α : Type} {g f : Nat → Nat → Nat → Option α} {r : α} (h : ∀ m n k, g (m + 1) n k = f m n k) (q : Ev3 f r) : Ev3 g r := by
  obtain ⟨K, q⟩ := q
  refine ⟨K + 1, fun m n k h1 h2 h3 => ?_⟩
  obtain ⟨m, rfl⟩ : ∃ i, m = i + 1 := ⟨m - 1, by omega⟩
  rw [h]; exact q m n k (by omega) (by omega) (by omega)
theorem Ev3.congr {α : Type} {g f : Nat → Nat → Nat → Option α} {r : α} (h : ∀ m n k, g m n k = f m n k) (q : Ev3 f r) : Ev3 g r := by
  obtain ⟨K, q⟩ := q
  exact ⟨K, fun m n k h1 h2 h3 => (h m n k).trans (q m n k h1 h2 h3)⟩
theorem Ev3.bind {α β : Type} {g : Nat → Option α} {f : Nat → Nat → Nat → α → Option β} {a : α} {r : β} (h : Ev g a) (q : Ev3 (fun m n k => f m n k a) r) : Ev3 (fun m n k => (g k).bind (f m n k)) r := by
  obtain ⟨K, h⟩ := h
  obtain ⟨L, q⟩ := q
  refine ⟨K + L, fun m n k h1 h2 h3 => ?_⟩
  show (g k).bind (f m n k) = some r
  rw [h k (by omega)]
  exact q m n k (by omega) (by omega) (by omega)
theorem ev3T {α : Type} {c : Prop} [Decidable c] {f g : Nat → Nat → Nat → Option α} {r : α} (h : c) (q : Ev3 f r) : Ev3 (fun m n k => if c then f m n k else g m n k) r := q.congr fun m n k => if_pos h
theorem ev3F {α : Type} {c : Prop} [Decidable c] {f g : Nat → Nat → Nat → Option α} {r : α} (h : ¬ c) (q : Ev3 g r) : Ev3 (fun m n k => if c then f m n k else g m n k) r := q.congr fun m n k => if_neg h
theorem Ev3.now {α : Type} (r : α) : Ev3 (fun _ _ _ => some r) r := ⟨0, fun _ _ _ _ _ _ => rfl⟩
/-! ### primes up to a thousand -/
def trial (q : Nat) : Nat → Nat → Option Bool
  | 0, d => none
  | n + 1, d => if d * d ≤ q then (if q % d = 0 then some false else trial q n (d + 1)) else some true
def trb (q : Nat) : Bool := (trial q 32 2).getD false
theorem trial_all : (List.range 1001).all (fun q => (trial q 32 2).isSome) = true := by kernel_rfl
theorem trial_e {q : Nat} (hq : q ≤ 1000) : trial q 32 2 = some (trb q) := by
  have := List.all_eq_true.1 trial_all q (List.mem_range.2 (by omega))
  unfold trb
  cases h : trial q 32 2 with
  | none => rw [h] at this; cases this
  | some b => rfl
theorem trial_loc {q : Nat} (hq2 : 2 ≤ q) (hq : q ≤ 1000) : ∀ (n d : Nat) (b : Bool), 2 ≤ d → d ≤ 100 → trial q n d = some b → Ev2 (fun a k => local_prime.l0 a k (q : Int) (d : Int)) b ∧ Ev2 (fun a k => plexusref01_Prime.l0 a k (q : Int) (d : Int)) b
  | 0, d, b, _, _, h => by cases h
  | n + 1, d, b, hd, hd2, h => by
    unfold trial at h
    have h3 := Nat.mul_le_mul hd2 hd2
    have ed : IntKind.wrap IntKind.i64 ((d : Int) * (d : Int)) = ((d * d : Nat) : Int) := by rw [← Int.natCast_mul, i64n (by omega)]
    by_cases c1 : d * d ≤ q
    · rw [if_pos c1] at h
      have h4 := Nat.mul_le_mul_right d hd
      by_cases c2 : q % d = 0
      · rw [if_pos c2] at h
        have hb : b = false := by simpa using h.symm
        subst hb
        have hdv : (Go.Vx.divF BinOp.rem IntKind.i64 (q : Int) (d : Int) == 0) = true := by
          rw [dvd_beq (by omega), decide_eq_true_iff]; exact Nat.dvd_of_mod_eq_zero c2
        refine ⟨Ev2.step (fun a k => local_prime.l0_succ a k _ _) ?_, Ev2.step (fun a k => plexusref01_Prime.l0_succ a k _ _) ?_⟩ <;> rw [ed]
        · exact ev2T (dT (by omega)) (ev2F (by omega) (ev2T hdv (Ev2.now _)))
        · exact ev2T (dT (by omega)) (ev2F (by omega) (ev2T hdv (Ev2.now _)))
      · rw [if_neg c2] at h
        have hdv : ¬ (Go.Vx.divF BinOp.rem IntKind.i64 (q : Int) (d : Int) == 0) = true := by
          rw [dvd_beq (by omega), decide_eq_true_iff]; exact fun q => c2 (Nat.mod_eq_zero_of_dvd q)
        have h6 : d < 32 := by
          rcases Nat.lt_or_ge d 32 with h | h
          · exact h
          · have := Nat.mul_le_mul h h
            omega
        obtain ⟨i1, i2⟩ := trial_loc hq2 hq n (d + 1) b (by omega) (by omega) h
        have e1 : IntKind.wrap IntKind.i64 ((d : Int) + 1) = ((d + 1 : Nat) : Int) := by rw [show (d : Int) + 1 = ((d + 1 : Nat) : Int) by omega, i64n (by omega)]
        refine ⟨Ev2.step (fun a k => local_prime.l0_succ a k _ _) ?_, Ev2.step (fun a k => plexusref01_Prime.l0_succ a k _ _) ?_⟩ <;> rw [ed, e1]
        · exact ev2T (dT (by omega)) (ev2F (by omega) (ev2F hdv i1))
        · exact ev2T (dT (by omega)) (ev2F (by omega) (ev2F hdv i2))
    · rw [if_neg c1] at h
      have hb : b = true := by simpa using h.symm
      subst hb
      refine ⟨Ev2.step (fun a k => local_prime.l0_succ a k _ _) ?_, Ev2.step (fun a k => plexusref01_Prime.l0_succ a k _ _) ?_⟩ <;> rw [ed]
      · refine ev2F (dF (by omega)) ?_
        rw [decide_eq_true (by omega : (q : Int) > 1)]
        exact Ev2.now _
      · exact ev2F (dF (by omega)) (Ev2.now _)
/-- Whether a number up to 1000 is prime. -/
def pB (q : Int) : Bool := decide (2 ≤ q) && trb q.toNat
theorem primes_any {q : Int} (hq : q ≤ 1000) : Ev (fun k => local_prime.m k q) (pB q) ∧ Ev (fun k => plexusref01_Prime.m k q) (pB q) := by
  by_cases h2 : 2 ≤ q
  · obtain ⟨n, rfl⟩ := Int.eq_ofNat_of_zero_le (show 0 ≤ q by omega)
    have e : pB (n : Int) = trb n := by unfold pB; rw [decide_eq_true h2, Bool.true_and, Int.toNat_natCast]
    rw [e]
    obtain ⟨h3, h4⟩ := trial_loc (q := n) (by omega) (by omega) 32 2 _ (by decide) (by decide) (trial_e (by omega))
    exact ⟨evX (fun k => local_prime.m_eq k _) h3.diag, evX (fun k => plexusref01_Prime.m_eq k _) (evF (dF (by omega)) h4.diag)⟩
  · have e : pB q = false := by unfold pB; rw [decide_eq_false h2, Bool.false_and]
    rw [e]
    refine ⟨evX (fun k => local_prime.m_eq k _) ?_, evX (fun k => plexusref01_Prime.m_eq k _) (evT (dT (by omega)) (Ev.now _))⟩
    suffices z : Ev2 (fun a k => local_prime.l0 a k q 2) false from z.diag
    refine Ev2.step (fun a k => local_prime.l0_succ a k _ _) (ev2F (dF ?_) ?_)
    · rw [show IntKind.wrap IntKind.i64 (2 * 2) = 4 by decide]; omega
    · rw [decide_eq_false (by omega : ¬ q > 1)]; exact Ev2.now _
theorem trb_low : (List.range 201).all (fun q => decide (q < 2) || !trb q || (q == 2 || oddP.contains q)) = true := by kernel_rfl
theorem trb_up : oddP.all trb = true := by kernel_rfl
theorem pB_pl {q : Nat} (h : pB (q : Int) = true) (hq : q ≤ 200) : q = 2 ∨ q ∈ oddP := by
  unfold pB at h
  rw [Bool.and_eq_true, decide_eq_true_eq, Int.toNat_natCast] at h
  have := List.all_eq_true.1 trb_low q (List.mem_range.2 (by omega))
  rw [h.2, decide_eq_false (by omega)] at this
  simpa using this
theorem pl_pB {q : Nat} (h : q = 2 ∨ q ∈ oddP) : pB (q : Int) = true := by
  rcases h with rfl | h
  · decide
  · obtain ⟨b1, _, _⟩ := oddP_bd q h
    unfold pB
    rw [decide_eq_true (by omega), Bool.true_and, Int.toNat_natCast]
    exact List.all_eq_true.1 trb_up q h
/-! ### the symbol at every place -/
theorem vl_unit {p : Nat} (hp : 2 ≤ p) {a : Int} (ha : Sm a) (h : a % (p : Int) ≠ 0) : vl p a = (0, a) := vl_uniq hp ha (by simp) h
theorem Hm_units {p : Nat} (hp : 3 ≤ p) {a b : Int} (ha : Sm a) (hb : Sm b) (h1 : a % (p : Int) ≠ 0) (h2 : b % (p : Int) ≠ 0) : Hm p a b = 1 := by
  unfold Hm
  rw [if_neg (by omega), if_neg (by omega), vl_unit (by omega) ha h1, vl_unit (by omega) hb h2]
  unfold ho
  simp
theorem far {p : Nat} (hp : 200 < p) {a : Int} (ha : Lt a) : a % (p : Int) ≠ 0 := by
  intro h
  have h1 := Int.dvd_of_emod_eq_zero h
  obtain ⟨c, rfl⟩ := h1
  obtain ⟨h2, h3, h4⟩ := ha
  have hc : c ≠ 0 := by rintro rfl; simp at h2
  have e := Int.natAbs_mul (p : Int) c
  have := Nat.le_mul_of_pos_right p (show 0 < c.natAbs by omega)
  rw [Int.natAbs_natCast] at e
  omega
/-- What Hilbert answers. -/
def HA (a b q : Int) : Int × Int := if q = 0 ∨ (q ≤ 1000 ∧ pB q = true) then (Hm q.toNat a b, 0) else (0, 1)
theorem HA_pl {a b : Int} {p : Nat} (h : Pl p) : HA a b (p : Int) = (Hm p a b, 0) := by
  unfold HA
  rw [if_pos, Int.toNat_natCast]
  rcases h with h | h
  · left; omega
  · right
    refine ⟨?_, pl_pB h⟩
    rcases h with rfl | h
    · decide
    · obtain ⟨_, b1, _⟩ := oddP_bd p h; omega
theorem Hilbert_far {p : Nat} (hp : 200 < p) (hp2 : p ≤ 1000) {a b : Int} (ha : Lt a) (hb : Lt b) : Ev (fun k => local_Hilbert.j0 k a b (p : Int)) (1, 0) := by
  refine evX (fun k => local_Hilbert.j0_eq k _ _ _) (evF (bF (by omega)) ?_)
  have va := valZ_e (p := p) (by omega) (by omega) ha.sm
  have vb := valZ_e (p := p) (by omega) (by omega) hb.sm
  rw [vl_unit (by omega) ha.sm (far hp ha)] at va
  rw [vl_unit (by omega) hb.sm (far hp hb)] at vb
  refine Ev.bind va (Ev.bind vb (evT (dT (by omega)) ?_))
  have j1 : Ev (fun k => local_Hilbert.j1 k (p : Int) (((0 : Nat) : Int), a) (((0 : Nat) : Int), b) 1) (1, 0) :=
    evX (fun k => local_Hilbert.j1_eq k _ _ _ _) (evF (by show ¬ (Go.Vx.divF BinOp.rem IntKind.i64 0 2 == 1) = true; decide) (evX (fun k => local_Hilbert.j2_eq k _ _ _ _) (evF (by show ¬ (Go.Vx.divF BinOp.rem IntKind.i64 0 2 == 1) = true; decide) (Ev.now _))))
  have sg : Ev (fun k => local_sign.m k false) 1 := by simpa using sign_e false
  by_cases h4 : (Go.Vx.divF BinOp.rem IntKind.i64 (p : Int) 4 == 3) = true
  · exact evT h4 (evF (by show ¬ (Go.Vx.divF BinOp.rem IntKind.i64 0 2 == 1) = true; decide) (Ev.bind sg j1))
  · exact evF h4 (Ev.bind sg j1)
theorem HilbertA_e {a b q : Int} (ha : Lt a) (hb : Lt b) : Ev (fun k => local_Hilbert.m k a b q) (HA a b q) := by
  by_cases h0 : q = 0
  · subst h0
    have := Hilbert_e (p := 0) (.inl rfl) ha hb
    rw [show HA a b 0 = (Hm 0 a b, 0) from HA_pl (p := 0) (.inl rfl)]
    exact this
  · by_cases h1 : q > 1000
    · unfold HA
      rw [if_neg (by omega)]
      exact evX (fun k => local_Hilbert.m_eq k _ _ _) (Ev.bind (small_e ha.1 ha.2.1 ha.2.2) (evF (by decide) (Ev.bind (small_e hb.1 hb.2.1 hb.2.2) (evF (by decide) (evT (nT h0) (evT (dT h1) (Ev.now _)))))))
    · by_cases hp : pB q = true
      · have h2 : 2 ≤ q := by
          unfold pB at hp
          rw [Bool.and_eq_true, decide_eq_true_eq] at hp
          exact hp.1
        obtain ⟨n, rfl⟩ := Int.eq_ofNat_of_zero_le (show 0 ≤ q by omega)
        by_cases h3 : n ≤ 200
        · have := pB_pl hp h3
          rw [HA_pl (.inr this)]
          exact Hilbert_e (.inr this) ha hb
        · have e : HA a b (n : Int) = (1, 0) := by
            unfold HA
            rw [if_pos (.inr ⟨by omega, hp⟩), Int.toNat_natCast, Hm_units (by omega) ha.sm hb.sm (far (by omega) ha) (far (by omega) hb)]
          rw [e]
          refine evX (fun k => local_Hilbert.m_eq k _ _ _) (Ev.bind (small_e ha.1 ha.2.1 ha.2.2) (evF (by decide) (Ev.bind (small_e hb.1 hb.2.1 hb.2.2) (evF (by decide) (evT (nT h0) (evF (dF h1) (Ev.bind (primes_any (by omega)).1 ?_)))))))
          rw [hp]
          exact evF (by decide) (Hilbert_far (by omega) (by omega) ha hb)
      · unfold HA
        rw [if_neg (by simp [h0, hp])]
        have hp' : pB q = false := by simpa using hp
        refine evX (fun k => local_Hilbert.m_eq k _ _ _) (Ev.bind (small_e ha.1 ha.2.1 ha.2.2) (evF (by decide) (Ev.bind (small_e hb.1 hb.2.1 hb.2.2) (evF (by decide) (evT (nT h0) (evF (dF h1) (Ev.bind (primes_any (by omega)).1 ?_)))))))
        rw [hp']
        exact evT rfl (Ev.now _)
/-- A place that divides neither, and is not two: no bad place. -/
theorem HA_nrel {a b : Int} (ha : Lt a) (hb : Lt b) {q : Int} (h : (HA a b q).1 = -1) : ∃ p : Nat, q = p ∧ Rel p a b ∧ Hm p a b = -1 ∧ (HA a b q).2 = 0 := by
  unfold HA at h ⊢
  by_cases c : q = 0 ∨ (q ≤ 1000 ∧ pB q = true)
  · rw [if_pos c] at h ⊢
    rcases c with c | c
    · subst c; exact ⟨0, rfl, .inl rfl, h, rfl⟩
    · have h2 : 2 ≤ q := by
        have := c.2
        unfold pB at this
        rw [Bool.and_eq_true, decide_eq_true_eq] at this
        exact this.1
      obtain ⟨n, rfl⟩ := Int.eq_ofNat_of_zero_le (show 0 ≤ q by omega)
      rw [Int.toNat_natCast] at h
      refine ⟨n, rfl, ?_, h, rfl⟩
      by_cases h3 : n ≤ 200
      · rcases pB_pl c.2 h3 with q | q
        · exact .inr (.inl q)
        · refine .inr (.inr ⟨q, ?_⟩)
          obtain ⟨b1, _, _⟩ := oddP_bd n q
          refine Decidable.byContradiction fun hz => ?_
          have h1 : a % (n : Int) ≠ 0 := fun w => hz (by rw [Int.mul_emod, w]; simp)
          have h2 : b % (n : Int) ≠ 0 := fun w => hz (by rw [Int.mul_emod, w]; simp)
          have := Hm_units (by omega) ha.sm hb.sm h1 h2
          simp only [] at h
          omega
      · have := Hm_units (by omega) ha.sm hb.sm (far (p := n) (by omega) ha) (far (p := n) (by omega) hb)
        simp only [] at h
        omega
  · rw [if_neg c] at h
    simp at h
end Go.Proofs.YtokaigninenjhaaQ
