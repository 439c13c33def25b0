/- PrivateHides, but for the examples. -/
import Derived.Test.YtchpkglnmpmcmaaQB
import Derived.Test.YtchpkglnmpmcmaaX47H
namespace Go.Proofs.YtchpkglnmpmcmaaQ
set_option linter.unusedVariables false
set_option linter.unusedSimpArgs false
open Go Go.RowKit Go.Proofs.Ytchpkglnmpmcmaa.V47 Go.Proofs.YtchpkglnmpmcmaaW.PrintWords Go.Proofs.YtchpkglnmpmcmaaW.PrintLast Go.Proofs.YtchpkglnmpmcmaaW.PrintMore
theorem xnF {p q : Bool} (h : p = q) : ¬ ((!(p == q)) = true) := by subst h; cases p <;> decide
theorem plc_1 (v : Int) (l : List Int) (s : Int) (j : Nat) : plc v l s (j + 1) = (((j + 1 : Nat) : Int), wrap64 (l.getD j 0), 0, key s ((j + 1 : Nat) : Int), []) := by
  unfold plc; rw [if_neg (by omega)]; rfl
theorem opn_1 (v : Int) (l : List Int) (s : Int) (j : Nat) : opn v l s (j + 1) = (((j + 1 : Nat) : Int), wrap64 (l.getD j 0), 0, key s ((j + 1 : Nat) : Int), path 0 (lvs v l s) (j + 1)) := by
  unfold opn; rw [plc_1]
theorem getD_U {l : List Int} (hl : ∀ y ∈ l, U y) (j : Nat) : U (l.getD j 0) := by
  rw [List.getD_eq_getElem?_getD]
  by_cases h : j < l.length
  · rw [List.getElem?_eq_getElem h]; exact hl _ (List.getElem_mem h)
  · rw [List.getElem?_eq_none (by omega)]; exact U0
theorem beq_iff {a b c d : Int} (h : a = b ↔ c = d) : (a == b) = (c == d) := by rw [Bool.eq_iff_iff, beq_iff_eq, beq_iff_eq]; exact h
theorem hides_l0 {s t : Int} (hs : S s) (ht : S t) {v w : Int} {l m : List Int} (hl : l.length ≤ 10) (hm : m.length ≤ 10) (ul : ∀ y ∈ l, U y) (um : ∀ y ∈ m, U y) : ∀ (d j : Nat), l.length - j = d →
    Ev2 (fun n k => plexuslaw47_PrivateHides.l0 n k (s, t) true (v, l) (w, m) (lvs v l s) (lvs w m s) ((j + 1 : Nat) : Int)) true
  | 0, j, hd => by
    refine Ev2.step (fun n k => plexuslaw47_PrivateHides.l0_succ n k _ _ _ _ _ _ _) ?_
    exact ev2F (dF (by show ¬ (((j + 1 : Nat) : Int) ≤ (l.length : Int)); omega)) (Ev2.now _)
  | d + 1, j, hd => by
    refine Ev2.step (fun n k => plexuslaw47_PrivateHides.l0_succ n k _ _ _ _ _ _ _) ?_
    have hj : j < l.length := by omega
    refine ev2T (dT (by show ((j + 1 : Nat) : Int) ≤ (l.length : Int); omega)) ?_
    by_cases hjm : j < m.length
    · refine ev2T (dT (by show ((j + 1 : Nat) : Int) ≤ (m.length : Int); omega)) ?_
      have s1 := shown_f (v, l) s (by show l.length ≤ _; omega) (i := j + 1) (by show j + 1 ≤ l.length; omega)
      have s2 := shown_f (w, m) s (by show m.length ≤ _; omega) (i := j + 1) (by show j + 1 ≤ m.length; omega)
      have s3 := shown_f (v, l) t (by show l.length ≤ _; omega) (i := j + 1) (by show j + 1 ≤ l.length; omega)
      rw [opn_1] at s1 s2 s3
      have ux := getD_U ul j
      have uy := getD_U um j
      have e1 : IntKind.wrap IntKind.i64 (((j + 1 : Nat) : Int) - 1) = (j : Int) := dec64 (by omega)
      have g1 : List.getD l (Int.toNat (j : Int)) (Int.ofNat 0) = l.getD j 0 := rfl
      have g2 : List.getD m (Int.toNat (j : Int)) (Int.ofNat 0) = m.getD j 0 := rfl
      have g3 : List.getD (lvs v l s) (Int.toNat ((j + 1 : Nat) : Int)) (Int.ofNat 0) = wd [key s ((j + 1 : Nat) : Int), wrap64 (l.getD j 0)] := by
        rw [Int.toNat_natCast, ← leaf_1 v l s j]; exact lvs_getD v l s (by omega)
      have g4 : List.getD (lvs w m s) (Int.toNat ((j + 1 : Nat) : Int)) (Int.ofNat 0) = wd [key s ((j + 1 : Nat) : Int), wrap64 (m.getD j 0)] := by
        rw [Int.toNat_natCast, ← leaf_1 w m s j]; exact lvs_getD w m s (by omega)
      have k1 : wd [key s ((j + 1 : Nat) : Int), wrap64 (l.getD j 0)] = wd [key s ((j + 1 : Nat) : Int), wrap64 (m.getD j 0)] ↔ l.getD j 0 = m.getD j 0 := by
        rw [wd_2 (.inl rfl), wrap_w64 ux, wrap_w64 uy]; simp
      have next := hides_l0 hs ht (v := v) (w := w) hl hm ul um d (j + 1) (by omega)
      refine Ev2.bind s1 (Ev2.bind s2 (ev2F (nF rfl) (ev2F (nF rfl) (ev2F (nF rfl) ?_))))
      simp only [e1, g1, g2, g3, g4]
      generalize l.getD j 0 = x at *
      generalize m.getD j 0 = y at *
      refine ev2T (by omega) (ev2T (by show (j : Int) < (l.length : Int); omega) (ev2T (by omega) (ev2T (by show (j : Int) < (m.length : Int); omega) (ev2T (by omega) (ev2T (by rw [lvs_len]; omega) (ev2T (by omega) (ev2T (by rw [lvs_len]; omega) ?_)))))))
      refine ev2F (xnF (beq_iff k1.symm)) ?_
      refine ev2T (by omega) (ev2T (by show (j : Int) < (l.length : Int); omega) (ev2T (by omega) (ev2T (by show (j : Int) < (m.length : Int); omega) ?_)))
      refine ev2F (xnF (beq_iff (U_inj ux uy).symm)) ?_
      refine Ev2.bind (a := wd [key s ((j + 1 : Nat) : Int), wrap64 x]) (Ev.now _) (ev2T (by omega) (ev2T (by rw [lvs_len]; omega) (ev2F (nF rfl) ?_)))
      refine Ev2.bind s3 (ev2F (nF rfl) (ev2F (nF rfl) (ev2F (xnF (beq_iff ?_)) ?_)))
      · show key t ((j + 1 : Nat) : Int) = key s ((j + 1 : Nat) : Int) ↔ s = t
        rw [key_salt _ ht hs, eq_comm]
      · rw [inc64 (by omega)]; exact next
    · exact ev2F (dF (by show ¬ (((j + 1 : Nat) : Int) ≤ (m.length : Int)); omega)) (Ev2.now _)
theorem hides_of (hex : Ev (fun k => plexuslaw47_examples.m k) true) {a0 a1 : List Int} (ha : ∀ x ∈ a0, BY x) (hb : ∀ x ∈ a1, BY x) {a2 : Int × Int} (s0 : S a2.1) (s1 : S a2.2) : Ev (fun k => plexuslaw47_PrivateHides.m k a0 a1 a2) true := by
  obtain ⟨v, ⟨xv, l⟩, hv1, hv7, ok, hm⟩ := made_f ha
  obtain rfl : xv = (v : Int) := ok.pts
  obtain ⟨w, ⟨xw, l2⟩, hw1, hw7, ok2, hm2⟩ := made_f hb
  obtain rfl : xw = (w : Int) := ok2.pts
  have hlen : l.length ≤ 10 := ok.len
  have hlen2 : l2.length ≤ 10 := ok2.len
  obtain ⟨s, t⟩ := a2
  have ul : ∀ y ∈ l, U y := fun y hy => PB_U (by omega) (ok.pb y hy)
  have ul2 : ∀ y ∈ l2, U y := fun y hy => PB_U (by omega) (ok2.pb y hy)
  have j0 : Ev (fun k => plexuslaw47_PrivateHides.j0 k (s, t) true ((v : Int), l) ((w : Int), l2) (lvs v l s) (lvs w l2 s)) true := by
    refine evX (fun k => plexuslaw47_PrivateHides.j0_eq k _ _ _ _ _ _) ?_
    exact (hides_l0 s0 s1 hlen hlen2 ul ul2 l.length 0 (by omega)).diag
  refine evX (fun k => plexuslaw47_PrivateHides.m_eq k _ _ _) ?_
  refine Ev.bind hex (evF (by decide) (Ev.bind hm (Ev.bind hm2 ?_)))
  have le1 : (lvs (v : Int) l s).length = l.length + 1 := lvs_len _ _ _
  have le2 : (lvs (w : Int) l2 s).length = l2.length + 1 := lvs_len _ _ _
  refine Ev.bind (leaves_f ((v : Int), l) s (by show l.length ≤ _; omega)) (Ev.bind (leaves_f ((w : Int), l2) s (by show l2.length ≤ _; omega)) ?_)
  show Ev (fun k => _) true
  have g1 : List.getD (lvs (v : Int) l s) (Int.toNat 0) (Int.ofNat 0) = wd [key s 0, (v : Int), (l.length : Int)] := by rw [← leaf_0]; exact lvs_getD _ l s (Nat.zero_le _)
  have g2 : List.getD (lvs (w : Int) l2 s) (Int.toNat 0) (Int.ofNat 0) = wd [key s 0, (w : Int), (l2.length : Int)] := by rw [← leaf_0]; exact lvs_getD _ l2 s (Nat.zero_le _)
  refine evF (nF (by show ((lvs (v : Int) l s).length : Int) = IntKind.wrap IntKind.i64 ((l.length : Int) + 1); rw [wrap_i64', w64 (by omega) (by omega), le1]; omega)) (evF (nF (by show ((lvs (w : Int) l2 s).length : Int) = IntKind.wrap IntKind.i64 ((l2.length : Int) + 1); rw [wrap_i64', w64 (by omega) (by omega), le2]; omega)) (evT (by show (0 : Int) < ((lvs (v : Int) l s).length : Int); omega) (evT (by show (0 : Int) < ((lvs (w : Int) l2 s).length : Int); omega) ?_)))
  simp only [g1, g2]
  have sv : S (v : Int) := by unfold S; omega
  have sw : S (w : Int) := by unfold S; omega
  have sl : S (l.length : Int) := by unfold S; omega
  have sl2 : S (l2.length : Int) := by unfold S; omega
  by_cases h : (v : Int) = (w : Int)
  · have k := wd_3 (a := key s 0) (d := key s 0) (b := (v : Int)) (e := (w : Int)) (c := (l.length : Int)) (f := (l2.length : Int)) (.inr (.inr ⟨rfl, h⟩))
    rw [S_inj sl sl2] at k
    refine evT (bT h) (evF (xnF (beq_iff ?_)) j0)
    rw [k]
    exact ⟨fun q => q.2.2, fun q => ⟨rfl, by rw [h], q⟩⟩
  · refine evF (bF h) ?_
    by_cases q : wd [key s 0, (v : Int), (l.length : Int)] = wd [key s 0, (w : Int), (l2.length : Int)]
    · have hne : (l.length : Int) ≠ (l2.length : Int) := fun e => by
        have k := (wd_3 (a := key s 0) (d := key s 0) (b := (v : Int)) (e := (w : Int)) (c := (l.length : Int)) (f := (l2.length : Int)) (.inr (.inl ⟨rfl, e⟩))).1 q
        exact h ((S_inj sv sw).1 k.2.1)
      refine evT (by rw [bT q]; rfl) (evF (bF h) (evF (bF hne) j0))
    · refine evF (by rw [show (wd [key s 0, (v : Int), (l.length : Int)] == wd [key s 0, (w : Int), (l2.length : Int)]) = false from beq_eq_false_iff_ne.2 q]; decide) j0
end Go.Proofs.YtchpkglnmpmcmaaQ
