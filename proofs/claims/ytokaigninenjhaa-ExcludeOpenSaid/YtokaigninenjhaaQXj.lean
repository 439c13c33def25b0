/- ExcludeOpen: the plain law. -/
import Derived.Test.YtokaigninenjhaaQXf
import Derived.Test.YtokaigninenjhaaX24O
namespace Go.Proofs.YtokaigninenjhaaQ
set_option linter.unusedVariables false
set_option linter.unusedSimpArgs false
open Go Go.RowKit Go.Proofs.Ytokaigninenjhaa.P22 Go.Proofs.Ytokaigninenjhaa.V22 Go.Proofs.YtokaigninenjhaaW.PrintWords Go.Proofs.YtokaigninenjhaaW.PrintLast Go.Proofs.YtokaigninenjhaaW.PrintMore
theorem opn_mem {v k : Nat} : ∀ {m i : Nat} {x : Int}, x ∈ opn v k i m → ∃ n : Nat, x = n ∧ i ≤ n ∧ n < i + m ∧ (whyV v k n).2 = 4
  | 0, i, x, h => by unfold opn at h; cases h
  | m + 1, i, x, h => by
    unfold opn at h
    rcases List.mem_append.1 h with h | h
    · by_cases hw : (whyV v k i).2 = 4
      · rw [if_pos hw] at h
        exact ⟨i, List.mem_singleton.1 h, Nat.le_refl _, by omega, hw⟩
      · rw [if_neg hw] at h
        cases h
    · obtain ⟨n, h1, h2, h3, h4⟩ := opn_mem h
      exact ⟨n, h1, by omega, by omega, h4⟩
/-- The sum of two open numbers: integers, and at least as many blocks as points. -/
theorem open_sum {v k i j : Nat} (hi : RN v k i) (hj : RN v k j) (hij : i + j ≤ 20) (oi : (whyV v k i).2 = 4) (oj : (whyV v k j).2 = 4) :
    RN v k (i + j) ∧ (blk v k (i + j) 0).2 = 1 ∧ (blk v k (i + j) 1).2 = 1 ∧ (v : Int) ≤ (blk v k (i + j) 0).1 := by
  have hs : RN v k (i + j) := by
    obtain ⟨h1, h2, h3, h4, h5⟩ := hi
    exact ⟨h1, h2, h3, by omega, hij⟩
  have m0 : ((1, 0, 0) : Int × Int × Int) ∈ allL := by decide
  have hdv : ∀ n : Int, n = 0 ∨ n = 1 → Dd k n ∣ Nn v (i + j) n := fun n hn => by
    have hr : ((1, n, 0) : Int × Int × Int) ∈ allL := by
      rw [allL_eq]
      rcases hn with rfl | rfl
      · exact List.mem_cons_self ..
      · exact List.mem_cons_of_mem _ (List.mem_cons_self ..)
    have a1 := whyV_open.1 oi _ hr
    have a2 := whyV_open.1 oj _ hr
    have b1 := (dvB_iff hi hn).1 a1
    have b2 := (dvB_iff hj hn).1 a2
    have e : Nn v (i + j) n = Nn v i n + Nn v j n := by
      unfold Nn
      split
      · rw [Nat.add_mul, Nat.add_mul]
      · rw [Nat.add_mul]
    rw [e]
    exact Nat.dvd_add b1 b2
  have hone : ∀ n : Int, n = 0 ∨ n = 1 → (blk v k (i + j) n).2 = 1 := fun n hn => by
    have := (dvB_iff hs hn).2 (hdv n hn)
    unfold dvB at this
    rw [decide_eq_true hn, Bool.true_and, bne_eq_false_iff_eq] at this
    exact this
  refine ⟨hs, hone 0 (.inl rfl), hone 1 (.inr rfl), ?_⟩
  have hex := whyV_open.1 oi (2, 0, 0) (by rw [allL_eq]; exact List.mem_cons_of_mem _ (List.mem_cons_of_mem _ (List.mem_cons_self ..)))
  have hex : decide (ex v k i < 0) = false := hex
  rw [decide_eq_false_iff_not] at hex
  unfold ex at hex
  obtain ⟨d1, d2, d3⟩ := Dd_lt hs 0
  have hg : Nat.gcd (Nn v (i + j) 0) (Dd k 0) = Dd k 0 := Nat.gcd_eq_right (hdv 0 (.inl rfl))
  show (v : Int) ≤ ((Nn v (i + j) 0 / Nat.gcd (Nn v (i + j) 0) (Dd k 0) : Nat) : Int)
  rw [hg]
  have hle : v ≤ Nn v (i + j) 0 / Dd k 0 := by
    rw [Nat.le_div_iff_mul_le d3]
    have e1 : Dd k 0 = k * (k - 1) := by unfold Dd; rw [if_pos rfl, Nat.mul_comm]
    have e2 : Nn v (i + j) 0 = (i + j) * (v - 1) * v := if_pos rfl
    rw [e1, e2, Nat.mul_comm v]
    refine Nat.mul_le_mul_right v (Nat.le_trans (show k * (k - 1) ≤ i * (v - 1) by omega) ?_)
    exact Nat.mul_le_mul_right _ (by omega)
  omega
theorem getD_of {l : List Int} {i : Nat} (h : i < l.length) : List.getD l (Int.toNat (i : Int)) (Int.ofNat 0) = l[i] := by
  rw [Int.toNat_natCast, List.getD_eq_getElem?_getD, List.getElem?_eq_getElem h]; rfl
theorem blocksL_e {v k l : Nat} (h : RN v k l) {n : Int} (hn : n = 0 ∨ n = 1) : Ev (fun j => plexuslaw24_blocks.m j (2, (v : Int), (k : Int), (l : Int)) n) (blk v k l n, 0) := by
  have := (blocks_both h n).1
  unfold blkV at this
  rw [if_pos hn] at this
  exact evX (fun j => plexuslaw24_blocks.m_eq j _ _) (Ev.bind this (Ev.now _))
theorem par_e (v k l : Int) : Ev (fun j => plexuslaw24_par.m j v k l) (2, v, k, l) := evX (fun j => plexuslaw24_par.m_eq j _ _ _) (Ev.now _)
theorem open_l1 {v k : Nat} {p : Int × Int × Int × Int} (hp : p.2.1 = v ∧ p.2.2.1 = k) (h : RN v k 1) {L : List Int} (hL : ∀ x ∈ L, ∃ n : Nat, x = n ∧ 1 ≤ n ∧ n < 21 ∧ (whyV v k n).2 = 4) (hlen : L.length ≤ 20) :
    ∀ (m i : Nat), i + m = L.length → Ev2 (fun n j => plexuslaw24_ExcludeOpen.l1 n j true p (L, 0) (L.length : Int) (i : Int)) true
  | 0, i, hi => by
    refine Ev2.step (fun n j => plexuslaw24_ExcludeOpen.l1_succ n j _ _ _ _ _) (ev2F (dF (by show ¬ ((i : Int) < (L.length : Int)); omega)) (ev2T (bT rfl) (Ev2.now _)))
  | m + 1, i, hi => by
    have hlt : i < L.length := by omega
    have h0 : 0 < L.length := by omega
    obtain ⟨a, ea, a1, a2, a3⟩ := hL L[i] (List.getElem_mem _)
    obtain ⟨b, eb, b1, b2, b3⟩ := hL L[0] (List.getElem_mem _)
    have ih := open_l1 hp h hL hlen m (i + 1) (by omega)
    have hs : IntKind.wrap IntKind.i64 ((i : Int) + 1) = ((i + 1 : Nat) : Int) := by
      rw [show (i : Int) + 1 = ((i + 1 : Nat) : Int) by omega, i64n (by omega)]
    have e0 : List.getD L (Int.toNat 0) (Int.ofNat 0) = ((b : Nat) : Int) := (getD_of (i := 0) h0).trans eb
    have ew : IntKind.wrap IntKind.i64 ((a : Int) + (b : Int)) = ((a + b : Nat) : Int) := by
      rw [show (a : Int) + (b : Int) = ((a + b : Nat) : Int) by omega, i64n (by omega)]
    refine Ev2.step (fun n j => plexuslaw24_ExcludeOpen.l1_succ n j _ _ _ _ _) (ev2T (dT (by show (i : Int) < (L.length : Int); omega)) (ev2T (by omega) (ev2T (by show (i : Int) < (L.length : Int); omega) (ev2T (by show (0 : Int) < (L.length : Int); omega) ?_))))
    rw [show List.getD ((L, (0 : Int)) : List Int × Int).fst (Int.toNat (i : Int)) (Int.ofNat 0) = (a : Int) from (getD_of hlt).trans ea, show List.getD ((L, (0 : Int)) : List Int × Int).fst (Int.toNat 0) (Int.ofNat 0) = (b : Int) from e0, ew, hs]
    by_cases hab : ((a + b : Nat) : Int) > 20
    · exact ev2T (dT hab) ih
    · refine ev2F (dF hab) ?_
      have hRa : RN v k a := ⟨h.1, h.2.1, h.2.2.1, a1, by omega⟩
      have hRb : RN v k b := ⟨h.1, h.2.1, h.2.2.1, b1, by omega⟩
      obtain ⟨hRs, s0, s1, s2⟩ := open_sum hRa hRb (by omega) a3 b3
      rw [hp.1, hp.2]
      refine Ev2.bind (par_e _ _ _) (Ev2.bind (blocksL_e hRs (.inl rfl)) (Ev2.bind (par_e _ _ _) (Ev2.bind (blocksL_e hRs (.inr rfl)) (ev2F (nF s0) (ev2F (nF s1) (ev2F (dF ?_) ih))))))
      show ¬ ((blk v k (a + b) 0).1 < (v : Int))
      omega
theorem open_lp {v k : Nat} {p : Int × Int × Int × Int} (hp : p.2.1 = v ∧ p.2.2.1 = k) (h : RN v k 1) : ∀ (m n at_ : Nat), n + m = 21 → 1 ≤ n → at_ ≤ (opn v k 1 20).length → (opn v k 1 20).drop at_ = opn v k n m →
    Ev2 (fun a j => plexuslaw24_ExcludeOpen.l0 a j true p (opn v k 1 20, 0) (at_ : Int) (n : Int)) true
  | 0, n, at_, hn, h1, hat, hd => by
    refine Ev2.step (fun a j => plexuslaw24_ExcludeOpen.l0_succ a j _ _ _ _ _) (ev2F (dF (by omega)) ?_)
    have hl : (opn v k 1 20).length ≤ at_ := by
      have := congrArg List.length hd
      rw [List.length_drop] at this
      have e : (opn v k n 0).length = 0 := rfl
      omega
    have hle : (opn v k 1 20).length ≤ 20 := by
      have : ∀ m i, (opn v k i m).length ≤ m := by
        intro m
        induction m with
        | zero => intro i; exact Nat.le_refl _
        | succ m ih =>
          intro i
          unfold opn
          rw [List.length_append]
          have := ih (i + 1)
          split <;> simp <;> omega
      exact this 20 1
    have z := open_l1 hp h (L := opn v k 1 20) (fun x hx => opn_mem hx) hle (opn v k 1 20).length 0 (by omega)
    rw [show (at_ : Int) = (((opn v k 1 20).length : Nat) : Int) by omega]
    exact Ev2.of z.diag
  | m + 1, n, at_, hn, h1, hat, hd => by
    have hR : RN v k n := ⟨h.1, h.2.1, h.2.2.1, h1, by omega⟩
    have hs : ∀ i : Nat, i ≤ 100 → IntKind.wrap IntKind.i64 ((i : Int) + 1) = ((i + 1 : Nat) : Int) := fun i hi => by
      rw [show (i : Int) + 1 = ((i + 1 : Nat) : Int) by omega, i64n (by omega)]
    have hj1 : ∀ (b : Bool) (at' : Nat), b = ((whyV v k n).2 == 4) → at' ≤ (opn v k 1 20).length → (opn v k 1 20).drop at' = opn v k (n + 1) m → Ev2 (fun a j => plexuslaw24_ExcludeOpen.j1 j a true p (opn v k 1 20, 0) (n : Int) b (at' : Int)) true := fun b at' hb h2 h3 => by
      refine Ev2.congr (fun a j => plexuslaw24_ExcludeOpen.j1_eq j a _ _ _ _ _ _) ?_
      show Ev2 (fun a j => Option.bind (plexuslaw24_par.m j p.2.1 p.2.2.1 (n : Int)) fun r363 => _) true
      rw [hp.1, hp.2]
      refine Ev2.bind (par_e _ _ _) (Ev2.bind (why_e hR) ?_)
      rw [hb]
      refine ev2F (by rw [beq_self_eq_true]; decide) ?_
      rw [hs n (by omega)]
      exact open_lp hp h m (n + 1) at' (by omega) (by omega) h2 h3
    have hj0 : ∀ b : Bool, b = ((whyV v k n).2 == 4) → ((whyV v k n).2 = 4 → at_ + 1 ≤ (opn v k 1 20).length ∧ (opn v k 1 20).drop (at_ + 1) = opn v k (n + 1) m) → (¬ (whyV v k n).2 = 4 → (opn v k 1 20).drop at_ = opn v k (n + 1) m) → Ev2 (fun a j => plexuslaw24_ExcludeOpen.j0 j a true p (opn v k 1 20, 0) (at_ : Int) (n : Int) b) true := fun b hb y1 y2 => by
      refine Ev2.congr (fun a j => plexuslaw24_ExcludeOpen.j0_eq j a _ _ _ _ _ _) ?_
      by_cases hw : (whyV v k n).2 = 4
      · obtain ⟨g1, g2⟩ := y1 hw
        refine ev2T (by rw [hb]; exact bT hw) ?_
        have : at_ ≤ 100 := by
          have : ∀ m i, (opn v k i m).length ≤ m := by
            intro m
            induction m with
            | zero => intro i; exact Nat.le_refl _
            | succ m ih =>
              intro i
              unfold opn
              rw [List.length_append]
              have := ih (i + 1)
              split <;> simp <;> omega
          have := this 20 1
          omega
        rw [hs at_ this]
        exact hj1 b (at_ + 1) hb g1 g2
      · exact ev2F (by rw [hb]; exact bF hw) (hj1 b at_ hb hat (y2 hw))
    refine Ev2.step (fun a j => plexuslaw24_ExcludeOpen.l0_succ a j _ _ _ _ _) (ev2T (dT (by omega)) ?_)
    have hd : (opn v k 1 20).drop at_ = (if (whyV v k n).2 = 4 then [(n : Int)] else []) ++ opn v k (n + 1) m := hd
    by_cases hlt : at_ < (opn v k 1 20).length
    · refine ev2T (dT (by show (at_ : Int) < ((opn v k 1 20).length : Int); omega)) (ev2T (by omega) (ev2T (by show (at_ : Int) < ((opn v k 1 20).length : Int); omega) ?_))
      have hg : List.getD ((opn v k 1 20, (0 : Int)) : List Int × Int).fst (Int.toNat (at_ : Int)) (Int.ofNat 0) = (opn v k 1 20)[at_] := getD_of hlt
      rw [hg]
      rw [List.drop_eq_getElem_cons hlt] at hd
      by_cases hw : (whyV v k n).2 = 4
      · rw [if_pos hw] at hd
        have hd : (opn v k 1 20)[at_] :: (opn v k 1 20).drop (at_ + 1) = (n : Int) :: opn v k (n + 1) m := hd
        injection hd with q1 q2
        refine hj0 _ ?_ (fun _ => ⟨by omega, q2⟩) (fun q => absurd hw q)
        rw [q1, show ((n : Int) == (n : Int)) = true from beq_self_eq_true _]
        exact (bT hw).symm
      · rw [if_neg hw, List.nil_append] at hd
        refine hj0 _ ?_ (fun q => absurd q hw) (fun _ => by rw [List.drop_eq_getElem_cons hlt]; exact hd)
        have hm : (opn v k 1 20)[at_] ∈ opn v k (n + 1) m := by rw [← hd]; exact List.mem_cons_self ..
        obtain ⟨x, ex, x1, _, _⟩ := opn_mem hm
        rw [ex, show ((x : Int) == (n : Int)) = false from beq_eq_false_iff_ne.2 (by omega)]
        exact (beq_eq_false_iff_ne.2 hw).symm
    · refine ev2F (dF (by show ¬ ((at_ : Int) < ((opn v k 1 20).length : Int)); omega)) ?_
      rw [List.drop_eq_nil_of_le (by omega)] at hd
      by_cases hw : (whyV v k n).2 = 4
      · rw [if_pos hw] at hd
        cases hd
      · rw [if_neg hw, List.nil_append] at hd
        refine hj0 _ (beq_eq_false_iff_ne.2 hw).symm (fun q => absurd q hw) (fun _ => by rw [List.drop_eq_nil_of_le (by omega)]; exact hd)
theorem openL_T {v k : Nat} (h : RN v k 1) : Ev (fun j => plexuslaw24_open.m j (v : Int) (k : Int) 20) (opn v k 1 20, 0) :=
  evX (fun j => plexuslaw24_open.m_eq j _ _ _) (Ev.bind (open_T h (M := 20) (by decide) (by decide)).1 (Ev.now _))
theorem opens_of {a : Int × Int × Int × Int} (h0 : 0 ≤ a.2.2.1) (h1 : a.2.2.1 < 256) : Ev (fun k => plexuslaw24_ExcludeOpen.m k a) true := by
  obtain ⟨p, hp⟩ := near_ex h0 h1
  refine evX (fun k => plexuslaw24_ExcludeOpen.m_eq k _) (Ev.bind examples24 (evF (by decide) (Ev.bind hp ?_)))
  by_cases hR : RP (2, p.2.1, p.2.2.1, 1)
  · obtain ⟨v, k, l, e, hN⟩ := hR.nat
    have e1 : p.2.1 = (v : Int) := congrArg (fun x : Int × Int × Int × Int => x.2.1) e
    have e2 : p.2.2.1 = (k : Int) := congrArg (fun x : Int × Int × Int × Int => x.2.2.1) e
    have hN1 : RN v k 1 := ⟨hN.1, hN.2.1, hN.2.2.1, by decide, by decide⟩
    have ho := openL_T hN1
    rw [← e1, ← e2] at ho
    refine Ev.bind ho (evF (nF rfl) ?_)
    suffices z : Ev2 (fun n j => plexuslaw24_ExcludeOpen.l0 n j true p (opn v k 1 20, 0) ((0 : Nat) : Int) ((1 : Nat) : Int)) true from z.diag
    exact open_lp ⟨e1, e2⟩ hN1 20 1 0 rfl (by decide) (Nat.zero_le _) rfl
  · have ho : Ev (fun j => plexuslaw24_open.m j p.2.1 p.2.2.1 20) ([], 1) := evX (fun j => plexuslaw24_open.m_eq j _ _ _) (Ev.bind (open_F (.inr (.inr hR))).1 (Ev.now _))
    exact Ev.bind ho (evT (nT (by decide)) (evT rfl (Ev.bind (par_e _ _ _) (Ev.bind (right_F hR) (evT rfl (Ev.now _))))))
end Go.Proofs.YtokaigninenjhaaQ
