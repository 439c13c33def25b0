/- The whole structure out of openings. -/
import Derived.Test.YtchpkglnmpmcmaaQPd
namespace Go.Proofs.YtchpkglnmpmcmaaQ
set_option linter.unusedVariables false
set_option linter.unusedSimpArgs false
open Go Go.RowKit Go.Proofs.Ytchpkglnmpmcmaa.P47 Go.Proofs.Ytchpkglnmpmcmaa.V47 Go.Proofs.YtchpkglnmpmcmaaW.PrintWords Go.Proofs.YtchpkglnmpmcmaaW.PrintLast Go.Proofs.YtchpkglnmpmcmaaW.PrintMore
theorem less_f (k : Nat) (a b : Int) : cmp_Less_uint64.m k a b = some (decide (a < b)) := by
  rw [cmp_Less_uint64.m_eq, cmp_isNaN_uint64.m_eq]
  simp
theorem getD_get {l : List Int} {i : Nat} (h : i < l.length) : List.getD l (Int.toNat (i : Int)) (Int.ofNat 0) = l[i] := by
  rw [Int.toNat_natCast, List.getD_eq_getElem?_getD, List.getElem?_eq_getElem h]; rfl
theorem dec64 {i : Nat} (h : i < 1000000) : IntKind.wrap IntKind.i64 (((i + 1 : Nat) : Int) - 1) = (i : Int) := by rw [wrap_i64', w64 (by omega) (by omega)]; omega
theorem issorted_l0 {l : List Int} (hs : Asc l) (hl : l.length ≤ 1000) : ∀ (i : Nat), i < l.length → Ev2 (fun n k => slices_IsSorted_uint64_uint64.l0 n k l (i : Int)) true
  | 0, hi => Ev2.step (fun n k => slices_IsSorted_uint64_uint64.l0_succ n k _ _) (ev2F (dF (by omega)) (Ev2.now _))
  | i + 1, hi => by
    refine Ev2.step (fun n k => slices_IsSorted_uint64_uint64.l0_succ n k _ _) ?_
    rw [dec64 (by omega), getD_get hi, getD_get (i := i) (by omega)]
    have hle : l[i] ≤ l[i + 1] := List.pairwise_iff_getElem.1 hs i (i + 1) (by omega) hi (by omega)
    refine ev2T (dT (by omega)) (ev2T (by omega) (ev2T (by omega) (ev2T (by omega) (ev2T (by omega) (Ev2.bind (a := false) ⟨0, fun k _ => (less_f k _ _).trans (congrArg some (decide_eq_false (by omega)))⟩ (ev2F (by decide) ?_))))))
    exact issorted_l0 hs hl i (by omega)
theorem issorted_f {l : List Int} (hs : Asc l) (hl : l.length ≤ 1000) : Ev (fun k => slices_IsSorted_uint64_uint64.m k l) true := by
  refine evX (fun k => slices_IsSorted_uint64_uint64.m_eq k _) ?_
  by_cases h : l.length = 0
  · have e : IntKind.wrap IntKind.i64 ((l.length : Int) - 1) = -1 := by rw [h, wrap_i64', w64 (by omega) (by omega)]; rfl
    rw [e]
    have : Ev2 (fun n k => slices_IsSorted_uint64_uint64.l0 n k l (-1)) true := Ev2.step (fun n k => slices_IsSorted_uint64_uint64.l0_succ n k _ _) (ev2F (dF (by omega)) (Ev2.now _))
    exact this.diag
  · have e : IntKind.wrap IntKind.i64 ((l.length : Int) - 1) = ((l.length - 1 : Nat) : Int) := by rw [wrap_i64', w64 (by omega) (by omega)]; omega
    rw [e]
    exact (issorted_l0 hs hl (l.length - 1) (by omega)).diag
theorem full_f (k : Nat) {v : Nat} (hv : v ≤ 60) : incidence_full.m k (v : Int) = some ((2 ^ v - 1 : Nat) : Int) := by
  rw [incidence_full.m_eq, if_neg (by omega)]
  have e : IntKind.wrap IntKind.u64 (v : Int) = (v : Int) := by rw [u64_wrap]; omega
  have := mask_eq hv
  rw [e] at this
  rw [this]
/-- A made structure is valid. -/
theorem valid_f {v : Nat} (h1 : 1 ≤ v) (h7 : v ≤ 16) {l : List Int} (hl : l.length ≤ 64) (hs : Asc l) (hp : ∀ b ∈ l, PB v b) : Ev (fun k => incidence_Valid.m k ((v : Int), l)) true := by
  refine evX (fun k => incidence_Valid.m_eq k _) ?_
  refine evF (dF (by show ¬ ((v : Int) < 1); omega)) (evF (dF (by show ¬ ((v : Int) > 16); omega)) (evF (dF (by show ¬ ((l.length : Int) > 64); omega)) (Ev.bind (issorted_f (l := l) hs (by omega)) (evF (by decide) ?_))))
  by_cases h : l.length = 0
  · exact evT (bT (by show (l.length : Int) = 0; omega)) (Ev.now _)
  · refine evF (bF (by show (l.length : Int) ≠ 0; omega)) ?_
    have e : IntKind.wrap IntKind.i64 ((l.length : Int) - 1) = ((l.length - 1 : Nat) : Int) := by rw [wrap_i64', w64 (by omega) (by omega)]; omega
    rw [e, getD_get (l := l) (i := l.length - 1) (by omega)]
    have hlt2 : ((l.length - 1 : Nat) : Int) < (l.length : Int) := by omega
    refine evT (Int.natCast_nonneg _) (evT hlt2 (Ev.bind ⟨0, fun k _ => full_f k (by omega)⟩ ?_))
    have hb := (hp _ (List.getElem_mem (show l.length - 1 < l.length by omega))).2
    have h4 : ((2 ^ v : Nat) : Int) = 2 ^ v := by simp
    rw [← h4] at hb
    have hpos := Nat.two_pow_pos v
    rw [show decide (l[l.length - 1] ≤ ((2 ^ v - 1 : Nat) : Int)) = true from decide_eq_true (by generalize 2 ^ v = z at hb hpos ⊢; omega)]
    exact Ev.now _
/-- The openings, for the program. -/
theorem all_l0 (L : List OT) (hl : L.length ≤ 20000) : ∀ (m i : Nat), L.length - i = m → i ≤ L.length → Ev2 (fun n k => plexuslaw47_all.l0 n k L (i : Int) (L.take i)) L
  | 0, i, hm, hi => by
    refine Ev2.step (fun n k => plexuslaw47_all.l0_succ n k _ _ _) ?_
    obtain rfl : i = L.length := by omega
    rw [List.take_length]
    exact ev2F (dF (by omega)) (Ev2.now _)
  | m + 1, i, hm, hi => by
    have hlt : i < L.length := by omega
    refine Ev2.step (fun n k => plexuslaw47_all.l0_succ n k _ _ _) ?_
    have e2 : List.getD L (Int.toNat (i : Int)) (Int.ofNat 0, Int.ofNat 0, Int.ofNat 0, Int.ofNat 0, []) = L[i] := by
      rw [Int.toNat_natCast, List.getD_eq_getElem?_getD, List.getElem?_eq_getElem hlt]; rfl
    rw [inc64 (by omega), e2]
    refine ev2T (dT (by omega)) (ev2T (by omega) (ev2T (by omega) (Ev2.bind (a := L[i]) ⟨0, fun k _ => plexuslaw47_to.m_eq k _⟩ (ev2T (by simp; omega) ?_))))
    have := all_l0 L hl m (i + 1) (by omega) (by omega)
    rw [List.take_succ_eq_append_getElem hlt] at this
    exact this
theorem all_f (L : List OT) (hl : L.length ≤ 20000) : Ev (fun k => plexuslaw47_all.m k L) L := by
  refine evX (fun k => plexuslaw47_all.m_eq k _) ?_
  exact (all_l0 L hl L.length 0 (by omega) (by omega)).diag
end Go.Proofs.YtchpkglnmpmcmaaQ
