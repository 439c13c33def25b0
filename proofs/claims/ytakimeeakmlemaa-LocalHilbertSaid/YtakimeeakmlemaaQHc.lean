/- LocalHilbert: the plain law. -/
import Derived.Test.YtakimeeakmlemaaQHb
import Derived.Test.YtakimeeakmlemaaX22H
namespace Go.Proofs.YtakimeeakmlemaaQ
set_option linter.unusedVariables false
set_option linter.unusedSimpArgs false
open Go Go.RowKit Go.Proofs.Ytakimeeakmlemaa.P22 Go.Proofs.Ytakimeeakmlemaa.V22 Go.Proofs.YtakimeeakmlemaaW.PrintWords Go.Proofs.YtakimeeakmlemaaW.PrintLast Go.Proofs.YtakimeeakmlemaaW.PrintMore
/-! ### the product over the places -/
def isPl (n : Nat) : Bool := n == 0 || n == 2 || oddP.contains n
theorem isPl_iff {n : Nat} : isPl n = true ↔ Pl n := by
  unfold isPl Pl
  simp [or_assoc]
def plr (l : List Nat) (c d : Int) : Int := l.foldl (fun v p => v * Hm p c d) 1
theorem plr_snoc (l : List Nat) (p : Nat) (c d : Int) : plr (l ++ [p]) c d = plr l c d * Hm p c d := by
  unfold plr; rw [List.foldl_append]; rfl
def PLs : List Nat := 0 :: 2 :: oddP
theorem range_PLs : (List.range 201).filter isPl = PLs := by kernel_rfl
theorem PLs_pl : ∀ p ∈ PLs, Pl p := fun p hp => by
  rw [← range_PLs] at hp
  exact isPl_iff.1 (List.mem_filter.1 hp).2
theorem foldl_start (f : Nat → Int) : ∀ (l : List Nat) (s : Int), l.foldl (fun v p => v * f p) s = s * l.foldl (fun v p => v * f p) 1
  | [], s => by simp
  | p :: l, s => by
    show l.foldl (fun v p => v * f p) (s * f p) = s * l.foldl (fun v p => v * f p) (1 * f p)
    rw [foldl_start f l (s * f p), foldl_start f l (1 * f p), Int.one_mul, Int.mul_assoc]
theorem plr_cons (p : Nat) (l : List Nat) (c d : Int) : plr (p :: l) c d = Hm p c d * plr l c d := by
  unfold plr
  show l.foldl _ (1 * Hm p c d) = _
  rw [foldl_start (fun p => Hm p c d) l, Int.one_mul]
theorem plr_mul : ∀ (l : List Nat), (∀ p ∈ l, Pl p) → ∀ {a b c : Int}, Sm a → Sm b → Sm (a * b) → Sm c → plr l (a * b) c = plr l a c * plr l b c
  | [], _, a, b, c, _, _, _, _ => rfl
  | p :: l, hl, a, b, c, ha, hb, hab, hc => by
    rw [plr_cons, plr_cons, plr_cons, Hm_mul (hl p (List.mem_cons_self ..)) ha hb hab hc, plr_mul l (fun q hq => hl q (List.mem_cons_of_mem _ hq)) ha hb hab hc]
    simp only [Int.mul_assoc, Int.mul_left_comm]
theorem plr_symm : ∀ (l : List Nat), (∀ p ∈ l, Pl p) → ∀ {a b : Int}, Sm a → Sm b → plr l a b = plr l b a
  | [], _, a, b, _, _ => rfl
  | p :: l, hl, a, b, ha, hb => by
    rw [plr_cons, plr_cons, Hm_symm (hl p (List.mem_cons_self ..)) ha hb, plr_symm l (fun q hq => hl q (List.mem_cons_of_mem _ hq)) ha hb]
theorem plr_unit : ∀ (l : List Nat), (∀ p ∈ l, Pl p) → ∀ {a b : Int}, Sm a → Sm b → plr l a b = 1 ∨ plr l a b = -1
  | [], _, a, b, _, _ => .inl rfl
  | p :: l, hl, a, b, ha, hb => by
    rw [plr_cons]
    exact pm_mul1 (Hm_unit (hl p (List.mem_cons_self ..)) ha hb) (plr_unit l (fun q hq => hl q (List.mem_cons_of_mem _ hq)) ha hb)
/-! ### reciprocity: the product is one -/
def G : List Int := [1, -1, 2, 3, 5, 7, 11, 13, 17, 19, 23, 29, 31, 37, 41, 43, 47, 53, 59, 61, 67, 71, 73, 79, 83, 89, 97, 101, 103, 107, 109, 113, 127]
def chkG : Bool := G.all fun c => G.all fun d => plr PLs c d == 1
theorem chkG_ok : chkG = true := by kernel_rfl
theorem G_one {c d : Int} (hc : c ∈ G) (hd : d ∈ G) : plr PLs c d = 1 := eq_of_beq (List.all_eq_true.1 (List.all_eq_true.1 chkG_ok c hc) d hd)
theorem sm_of {a : Int} (h0 : a ≠ 0) (h1 : a.natAbs < 1000000) : Sm a := ⟨h0, by
  have p20 : (2 : Nat) ^ 20 = 1048576 := by decide
  omega⟩
def chkD (n : Nat) : Bool := G.contains (n : Int) || (List.range n).any fun g => 2 ≤ g && g < n && n % g == 0 && G.contains (g : Int)
theorem chkD_ok : (List.range 129).all (fun n => n == 0 || chkD n) = true := by kernel_rfl
theorem split_D {n : Nat} (h0 : n ≠ 0) (h1 : n ≤ 128) : (n : Int) ∈ G ∨ ∃ g m : Nat, (g : Int) ∈ G ∧ n = g * m ∧ 2 ≤ g ∧ m ≠ 0 ∧ m < n := by
  have h := List.all_eq_true.1 chkD_ok n (List.mem_range.2 (by omega))
  rw [Bool.or_eq_true] at h
  rcases h with h | h
  · simp at h; omega
  · unfold chkD at h
    rw [Bool.or_eq_true] at h
    rcases h with h | h
    · left; simpa using h
    · right
      obtain ⟨g, hg, h2⟩ := List.any_eq_true.1 h
      simp only [Bool.and_eq_true, decide_eq_true_eq, beq_iff_eq, List.contains_iff_mem] at h2
      obtain ⟨⟨⟨g2, gn⟩, gd⟩, gG⟩ := h2
      obtain ⟨m, hm⟩ := Nat.dvd_of_mod_eq_zero gd
      have hm0 : m ≠ 0 := by rintro rfl; omega
      refine ⟨g, m, gG, hm, g2, hm0, ?_⟩
      have := Nat.mul_le_mul_right m g2
      omega
theorem gen_one {d : Int} (hd : Sm d) (H : ∀ g ∈ G, plr PLs g d = 1) : ∀ (n : Nat), n ≠ 0 → n ≤ 128 → plr PLs (n : Int) d = 1 := by
  intro n
  induction n using Nat.strongRecOn with
  | ind n ih =>
    intro h0 h1
    rcases split_D h0 h1 with h | ⟨g, m, hg, e, g2, m0, hm⟩
    · exact H _ h
    · have hgn : g ≤ n := by rw [e]; exact Nat.le_mul_of_pos_right g (by omega)
      rw [e, Int.natCast_mul, plr_mul PLs PLs_pl (sm_of (by omega) (by omega)) (sm_of (by omega) (by omega)) (by rw [← Int.natCast_mul, ← e]; exact sm_of (by omega) (by omega)) hd, H _ hg, ih m hm m0 (by omega)]
      rfl
theorem gen_all {d : Int} (hd : Sm d) (H : ∀ g ∈ G, plr PLs g d = 1) {c : Int} (h0 : c ≠ 0) (h1 : c.natAbs ≤ 128) : plr PLs c d = 1 := by
  have hp := gen_one hd H c.natAbs (by omega) h1
  by_cases hc : 0 ≤ c
  · rw [show c = (c.natAbs : Int) by omega]; exact hp
  · rw [show c = -1 * (c.natAbs : Int) by omega, plr_mul PLs PLs_pl (sm_of (by omega) (by omega)) (sm_of (by omega) (by omega)) (sm_of (by omega) (by omega)) hd, hp, H (-1) (by decide)]
    rfl
theorem G_bd : ∀ g ∈ G, g ≠ 0 ∧ g.natAbs ≤ 128 := by decide
theorem prod_one {c d : Int} (c0 : c ≠ 0) (c1 : c.natAbs ≤ 128) (d0 : d ≠ 0) (d1 : d.natAbs ≤ 128) : plr PLs c d = 1 := by
  refine gen_all (sm_of d0 (by omega)) (fun g hg => ?_) c0 c1
  obtain ⟨g0, g1⟩ := G_bd g hg
  rw [plr_symm PLs PLs_pl (sm_of g0 (by omega)) (sm_of d0 (by omega))]
  exact gen_all (sm_of g0 (by omega)) (fun f hf => G_one hf hg) d0 d1
/-! ### the other numbers below 200 -/
def tdn (q : Nat) : Nat → Nat → Bool
  | 0, d => false
  | n + 1, d => decide (d * d ≤ q) && (q % d == 0 || tdn q n (d + 1))
def chkNP : Bool := (List.range 201).all fun q => isPl q || (q != 0 && (match local_prime.cl0 0 20 (q : Int) 2 with | some b => !b | none => false) && (decide (q < 2) || tdn q 20 2))
theorem chkNP_ok : chkNP = true := by kernel_rfl
theorem tdn_l0 {q : Nat} (hq : q ≤ 1000) : ∀ (n d : Nat), 2 ≤ d → d ≤ 100 → tdn q n d = true → Ev2 (fun a k => plexusref01_Prime.l0 a k (q : Int) (d : Int)) false
  | 0, d, _, _, h => by cases h
  | n + 1, d, hd, hd2, h => by
    unfold tdn at h
    rw [Bool.and_eq_true, decide_eq_true_eq, Bool.or_eq_true, beq_iff_eq] at h
    obtain ⟨h1, h2⟩ := h
    have h3 := Nat.mul_le_mul hd2 hd2
    have h4 := Nat.mul_le_mul_right d hd
    refine Ev2.step (fun a k => plexusref01_Prime.l0_succ a k _ _) ?_
    rw [← Int.natCast_mul, i64n (by omega)]
    refine ev2T (dT (by omega)) (ev2F (by omega) ?_)
    by_cases h5 : d ∣ q
    · refine ev2T ?_ (Ev2.now _)
      rw [dvd_beq (by omega), decide_eq_true_iff]; exact h5
    · refine ev2F ?_ ?_
      · rw [dvd_beq (by omega), decide_eq_true_iff]; exact h5
      · rw [show (d : Int) + 1 = ((d + 1 : Nat) : Int) by omega, i64n (by omega)]
        have h6 : d < 32 := by
          rcases Nat.lt_or_ge d 32 with h | h
          · exact h
          · have := Nat.mul_le_mul h h
            omega
        exact tdn_l0 hq n (d + 1) (by omega) (by omega) (h2.resolve_left fun q => h5 (Nat.dvd_of_mod_eq_zero q))
theorem rprime_no {q : Nat} (hq : q ≤ 1000) (h : q < 2 ∨ tdn q 20 2 = true) : Ev (fun k => plexusref01_Prime.m k (q : Int)) false := by
  refine evX (fun k => plexusref01_Prime.m_eq k _) ?_
  by_cases h2 : q < 2
  · exact evT (dT (by omega)) (Ev.now _)
  · exact evF (dF (by omega)) (tdn_l0 hq 20 2 (by omega) (by omega) (h.resolve_left h2)).diag
theorem nonPl {q : Nat} (hq : q ≤ 200) (h : isPl q = false) : q ≠ 0 ∧ Ev (fun k => local_prime.m k (q : Int)) false ∧ Ev (fun k => plexusref01_Prime.m k (q : Int)) false := by
  have h1 := List.all_eq_true.1 chkNP_ok q (List.mem_range.2 (by omega))
  rw [h, Bool.false_or, Bool.and_eq_true, Bool.and_eq_true, bne_iff_ne, Bool.or_eq_true, decide_eq_true_eq] at h1
  obtain ⟨⟨q0, h2⟩, h3⟩ := h1
  refine ⟨q0, ?_, rprime_no (by omega) h3⟩
  split at h2
  · rename_i b hb
    have : b = false := by simpa using h2
    rw [this] at hb
    refine ⟨20, fun k hk => ?_⟩
    rw [local_prime.m_c]
    exact prime_more 20 _ _ _ hb k k hk
  · cases h2
theorem Hilbert_no {q : Nat} (hq : q ≤ 200) (h : isPl q = false) {a b : Int} (ha : Lt a) (hb : Lt b) : Ev (fun k => local_Hilbert.m k a b (q : Int)) (0, 1) := by
  obtain ⟨q0, e1, _⟩ := nonPl hq h
  refine evX (fun k => local_Hilbert.m_eq k _ _ _) (Ev.bind (small_e ha.1 ha.2.1 ha.2.2) (evF (by decide) (Ev.bind (small_e hb.1 hb.2.1 hb.2.2) (evF (by decide) ?_))))
  exact evT (nT (by omega)) (evF (dF (by omega)) (Ev.bind e1 (evT rfl (Ev.now _))))
theorem pr_pl {q : Nat} (h : Pl q) (q0 : q ≠ 0) : Pr q := by
  rcases h with h | h | h
  · exact absurd h q0
  · rw [h]; exact pr2
  · exact pr_of h
/-- The loop over the places. -/
theorem places_loop {c d : Int} (c0 : c ≠ 0) (c1 : c.natAbs ≤ 128) (d0 : d ≠ 0) (d1 : d.natAbs ≤ 128) : ∀ (m q : Nat), 201 - q = m → q ≤ 201 → Ev2 (fun n k => plexuslaw22_LocalHilbert.l0 n k true c d (plr ((List.range q).filter isPl) c d) (q : Int)) true
  | 0, q, hm, hq => by
    have eq : q = 201 := by omega
    subst eq
    rw [range_PLs, prod_one c0 c1 d0 d1]
    exact Ev2.step (fun n k => plexuslaw22_LocalHilbert.l0_succ n k _ _ _ _ _) (ev2F (dF (by decide)) (ev2T rfl (Ev2.now _)))
  | m + 1, q, hm, hq => by
    have hc : Lt c := ⟨c0, by omega, by omega⟩
    have hd : Lt d := ⟨d0, by omega, by omega⟩
    have ih := places_loop c0 c1 d0 d1 m (q + 1) (by omega) (by omega)
    have ew : IntKind.wrap IntKind.i64 ((q : Int) + 1) = ((q + 1 : Nat) : Int) := by rw [wrap_i64', w64 (by omega) (by omega)]; omega
    refine Ev2.step (fun n k => plexuslaw22_LocalHilbert.l0_succ n k _ _ _ _ _) (ev2T (dT (by omega)) ?_)
    have pm := plr_unit ((List.range q).filter isPl) (fun p hp => isPl_iff.1 (List.mem_filter.1 hp).2) (a := c) (b := d) (sm_of c0 (by omega)) (sm_of d0 (by omega))
    by_cases hp : isPl q = true
    · have hP := isPl_iff.1 hp
      have j2 : Ev2 (fun n k => plexuslaw22_LocalHilbert.j2 k n true c d (plr ((List.range q).filter isPl) c d) (q : Int) (Hm q c d, 0)) true := by
        refine Ev2.congr (fun n k => plexuslaw22_LocalHilbert.j2_eq k n _ _ _ _ _ _) (ev2T rfl ?_)
        rw [List.range_succ, List.filter_append, List.filter_cons, if_pos hp, List.filter_nil, plr_snoc] at ih
        have hu := Hm_unit hP (a := c) (b := d) (sm_of c0 (by omega)) (sm_of d0 (by omega))
        have e : IntKind.wrap IntKind.i64 (plr ((List.range q).filter isPl) c d * Hm q c d) = plr ((List.range q).filter isPl) c d * Hm q c d := w1 (by rcases pm_mul1 pm hu with h | h <;> simp [h])
        rw [ew]
        show Ev2 (fun n k => plexuslaw22_LocalHilbert.l0 n k true c d (IntKind.wrap IntKind.i64 (plr ((List.range q).filter isPl) c d * Hm q c d)) ((q + 1 : Nat) : Int)) true
        rw [e]
        exact ih
      refine Ev2.bind (Hilbert_e hP hc hd) ?_
      by_cases q0 : q = 0
      · exact ev2T (bT (by omega)) (ev2F (by simp) j2)
      · exact ev2F (bF (by omega)) (Ev2.bind (rprime_e (pr_pl hP q0) (by omega)) (ev2F (by simp) j2))
    · have hp' : isPl q = false := by simpa using hp
      obtain ⟨q0, e1, e2⟩ := nonPl (by omega) hp'
      refine Ev2.bind (Hilbert_no (by omega) hp' hc hd) (ev2F (bF (by omega)) (Ev2.bind e2 (ev2F (by simp) ?_)))
      refine Ev2.congr (fun n k => plexuslaw22_LocalHilbert.j2_eq k n _ _ _ _ _ _) (ev2F (by simp) ?_)
      rw [List.range_succ, List.filter_append, List.filter_cons, if_neg hp, List.filter_nil, List.append_nil] at ih
      rw [ew]
      exact ih
/-! ### a number with its negative, and with one less it -/
def smallPl : List Nat := 0 :: 2 :: smallP
def chkN (p : Nat) : Bool := (List.range 256).all fun i => (fun d : Int => d == 0 || (Hm p d (-d) == 1 && (d == 1 || Hm p d (1 - d) == 1))) ((i : Int) - 128)
theorem chkN_ok : smallPl.all chkN = true := by kernel_rfl
theorem Hm_neg {p : Nat} (hp : p ∈ smallPl) {d : Int} (d0 : d ≠ 0) (h1 : -128 ≤ d) (h2 : d ≤ 127) : Hm p d (-d) = 1 ∧ (d ≠ 1 → Hm p d (1 - d) = 1) := by
  have h := List.all_eq_true.1 chkN_ok p hp
  unfold chkN at h
  have h3 := List.all_eq_true.1 h (d + 128).toNat (List.mem_range.2 (by omega))
  have e : (((d + 128).toNat : Nat) : Int) - 128 = d := by omega
  rw [e] at h3
  simp only [Bool.or_eq_true, Bool.and_eq_true, beq_iff_eq] at h3
  rcases h3 with h3 | ⟨h4, h5⟩
  · exact absurd h3 d0
  · exact ⟨h4, fun h => h5.resolve_left h⟩
theorem near_e {x : Int} (h1 : -200 ≤ x) (h2 : x ≤ 200) : Ev (fun k => plexusref22_Near.m k x) (if x = 0 then 1 else x) := by
  refine evX (fun k => plexusref22_Near.m_eq k _) ?_
  by_cases h : x = 0
  · rw [if_pos h]; exact evT (bT h) (Ev.now _)
  · rw [if_neg h]
    refine evF (bF h) ?_
    rw [wrap_i64', w64 (by omega) (by omega)]
    exact Ev.now _
theorem near_bd {x : Int} {m : Int} (h1 : -m ≤ x) (h2 : x ≤ m) (hm : 1 ≤ m) : (if x = 0 then 1 else x) ≠ 0 ∧ -m ≤ (if x = 0 then 1 else x) ∧ (if x = 0 then 1 else x) ≤ m := by split <;> omega
theorem hilbert_j0 {p : Nat} (hp : p ∈ smallPl) {x y d c : Int} (hx : -128 ≤ x ∧ x ≤ 127) (hy : -128 ≤ y ∧ y ≤ 127) (hd : -128 ≤ d ∧ d ≤ 127) (hc : -128 ≤ c ∧ c ≤ 127) : Ev (fun k => plexuslaw22_LocalHilbert.j0 k (x, y, d) c true (p : Int)) true := by
  have hP : Pl p := by
    have h := hp
    unfold smallPl at h
    rcases List.mem_cons.1 h with h | h
    · exact .inl h
    · rcases List.mem_cons.1 h with h | h
      · exact .inr (.inl h)
      · exact .inr (.inr (small_odd p h))
  refine evX (fun k => plexuslaw22_LocalHilbert.j0_eq k _ _ _ _) ?_
  have tb : ∀ x : Int, -14 ≤ Go.Vx.divF BinOp.rem IntKind.i8 x 15 ∧ Go.Vx.divF BinOp.rem IntKind.i8 x 15 ≤ 14 := fun x => by
    rw [rem_tmod]
    have h1 := Int.lt_tmod_of_pos x (show (0 : Int) < 15 by decide)
    have h2 := Int.tmod_lt_of_pos x (show (0 : Int) < 15 by decide)
    omega
  have na := near_e (x := Go.Vx.divF BinOp.rem IntKind.i8 x 15) (by have := tb x; omega) (by have := tb x; omega)
  have nb := near_e (x := Go.Vx.divF BinOp.rem IntKind.i8 y 15) (by have := tb y; omega) (by have := tb y; omega)
  have nc := near_e (x := c) (by omega) (by omega)
  have nd := near_e (x := d) (by omega) (by omega)
  have ba := near_bd (m := 14) (tb x).1 (tb x).2 (by decide)
  have bb := near_bd (m := 14) (tb y).1 (tb y).2 (by decide)
  have bc := near_bd (x := c) (m := 128) (by omega) (by omega) (by decide)
  have bd : (if d = 0 then 1 else d) ≠ 0 ∧ -128 ≤ (if d = 0 then 1 else d) ∧ (if d = 0 then 1 else d) ≤ 127 := by split <;> omega
  revert na nb nc nd ba bb bc bd
  generalize (if Go.Vx.divF BinOp.rem IntKind.i8 x 15 = 0 then (1 : Int) else Go.Vx.divF BinOp.rem IntKind.i8 x 15) = A
  generalize (if Go.Vx.divF BinOp.rem IntKind.i8 y 15 = 0 then (1 : Int) else Go.Vx.divF BinOp.rem IntKind.i8 y 15) = B
  generalize (if c = 0 then (1 : Int) else c) = C
  generalize (if d = 0 then (1 : Int) else d) = D
  intro na nb nc nd ba bb bc bd
  refine Ev.bind na (Ev.bind nb (Ev.bind nc (Ev.bind nd ?_)))
  have mulb : ∀ {A B : Int}, -14 ≤ A → A ≤ 14 → -14 ≤ B → B ≤ 14 → A ≠ 0 → B ≠ 0 → A * B ≠ 0 ∧ -196 ≤ A * B ∧ A * B ≤ 196 := fun {A B} h1 h2 h3 h4 h5 h6 => by
    refine ⟨Int.mul_ne_zero h5 h6, ?_⟩
    have e := Int.natAbs_mul A B
    have := Nat.mul_le_mul (show A.natAbs ≤ 14 by omega) (show B.natAbs ≤ 14 by omega)
    omega
  have hab := mulb ba.2.1 ba.2.2 bb.2.1 bb.2.2 ba.1 bb.1
  have haa := mulb ba.2.1 ba.2.2 ba.2.1 ba.2.2 ba.1 ba.1
  have eab : IntKind.wrap IntKind.i64 (A * B) = A * B := by rw [wrap_i64', w64 (by omega) (by omega)]
  have eaa : IntKind.wrap IntKind.i64 (A * A) = A * A := by rw [wrap_i64', w64 (by omega) (by omega)]
  have end_ : IntKind.wrap IntKind.i64 (0 - D) = -D := by rw [wrap_i64', w64 (by omega) (by omega)]; omega
  have e1d : IntKind.wrap IntKind.i64 (1 - D) = 1 - D := by rw [wrap_i64', w64 (by omega) (by omega)]
  have lA : Lt A := ⟨ba.1, by omega, by omega⟩
  have lB : Lt B := ⟨bb.1, by omega, by omega⟩
  have lC : Lt C := ⟨bc.1, by omega, by omega⟩
  have lD : Lt D := ⟨bd.1, by omega, by omega⟩
  have lAB : Lt (A * B) := ⟨hab.1, by omega, by omega⟩
  have lAA : Lt (A * A) := ⟨haa.1, by omega, by omega⟩
  have uA := Hm_unit hP lA.sm lC.sm
  have uB := Hm_unit hP lB.sm lC.sm
  have uAB := Hm_unit hP lAB.sm lC.sm
  have mAB := Hm_mul hP lA.sm lB.sm lAB.sm lC.sm
  have mAA := Hm_mul hP lA.sm lA.sm lAA.sm lC.sm
  rw [pm_sq uA] at mAA
  have j1 : Ev (fun k => plexuslaw22_LocalHilbert.j1 k true C D) true := by
    refine evX (fun k => plexuslaw22_LocalHilbert.j1_eq k _ _ _) ?_
    exact (places_loop (c := C) (d := D) bc.1 (by omega) bd.1 (by omega) 201 0 rfl (by decide)).diag
  obtain ⟨hn, h1⟩ := Hm_neg hp bd.1 bd.2.1 bd.2.2
  refine Ev.bind (hilbert_e hP lA lC) (Ev.bind (hilbert_e hP lB lC) ?_)
  rw [eab, eaa, end_, e1d]
  refine Ev.bind (hilbert_e hP lAB lC) (evF (nF ?_) (Ev.bind (hilbert_e hP lAB lC) (Ev.bind (hilbert_e hP lC lAB) (evF (nF (Hm_symm hP lAB.sm lC.sm)) ?_))))
  · rw [mAB]
    exact w1 (by rcases pm_mul1 uA uB with h | h <;> simp [h])
  · refine Ev.bind (hilbert_e hP lAB lC) (evF (bF (by omega)) (Ev.bind (hilbert_e hP lAA lC) (evF (nF mAA) ?_)))
    refine Ev.bind (hilbert_e hP lD ⟨by omega, by omega, by omega⟩) (evF (nF hn) ?_)
    by_cases hD : D = 1
    · exact evF (nF hD) j1
    · exact evT (nT hD) (Ev.bind (hilbert_e hP lD ⟨by omega, by omega, by omega⟩) (evF (nF (h1 hD)) j1))
theorem hilbert_of {x y d n c : Int} (hx : -128 ≤ x ∧ x < 128) (hy : -128 ≤ y ∧ y < 128) (hd : -128 ≤ d ∧ d < 128) (hn : 0 ≤ n ∧ n < 256) (hc : -128 ≤ c ∧ c < 128) : Ev (fun k => plexuslaw22_LocalHilbert.m k (x, y, d) n c) true := by
  obtain ⟨p, hp, ep⟩ := primes_e hn.1 hn.2
  refine evX (fun k => plexuslaw22_LocalHilbert.m_eq k _ _ _) (Ev.bind examples22 (evF (by decide) (Ev.bind ep ?_)))
  have h0 : 0 ∈ smallPl := List.mem_cons_self ..
  have hp' : p ∈ smallPl := by
    unfold smallPl
    rcases hp with rfl | hp
    · simp
    · exact List.mem_cons_of_mem _ (List.mem_cons_of_mem _ hp)
  have hj := hilbert_j0 hp' (x := x) (y := y) (d := d) (c := c) (by omega) (by omega) (by omega) (by omega)
  have hj0 := hilbert_j0 h0 (x := x) (y := y) (d := d) (c := c) (by omega) (by omega) (by omega) (by omega)
  by_cases h : (Go.Vx.divF BinOp.rem IntKind.u8 n 8 == 7) = true
  · exact evT h hj0
  · exact evF h hj
end Go.Proofs.YtakimeeakmlemaaQ
