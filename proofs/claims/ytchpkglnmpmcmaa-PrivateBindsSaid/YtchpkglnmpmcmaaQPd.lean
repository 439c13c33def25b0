/- How commitments differ. -/
import Derived.Test.YtchpkglnmpmcmaaQPc
import Derived.Test.YtchpkglnmpmcmaaQM
namespace Go.Proofs.YtchpkglnmpmcmaaQ
set_option linter.unusedVariables false
set_option linter.unusedSimpArgs false
open Go Go.RowKit Go.Proofs.Ytchpkglnmpmcmaa.P47 Go.Proofs.Ytchpkglnmpmcmaa.V47 Go.Proofs.YtchpkglnmpmcmaaW.PrintWords Go.Proofs.YtchpkglnmpmcmaaW.PrintLast Go.Proofs.YtchpkglnmpmcmaaW.PrintMore
theorem lvs_out (v : Int) (l : List Int) (s : Int) {i : Nat} (h : l.length < i) : (lvs v l s)[i]? = none := List.getElem?_eq_none (by rw [lvs_len]; omega)
/-- Another number of points. -/
theorem lvs_v (v w : Int) (l : List Int) (s : Int) : lvs w l s = (lvs v l s).set 0 (leaf (plc w l s 0)) := by
  apply List.ext_getElem?
  intro i
  rw [List.getElem?_set]
  by_cases h0 : i = 0
  · subst h0
    rw [if_pos rfl, if_pos (by rw [lvs_len]; omega), lvs_get _ _ _ (Nat.zero_le _)]
  · rw [if_neg (Ne.symm h0)]
    by_cases h : i ≤ l.length
    · rw [lvs_get _ _ _ h, lvs_get _ _ _ h]
      unfold plc
      rw [if_neg h0, if_neg h0]
    · rw [lvs_out _ _ _ (by omega), lvs_out _ _ _ (by omega)]
theorem leaf_0 (v : Int) (l : List Int) (s : Int) : leaf (plc v l s 0) = wd [key s 0, v, (l.length : Int)] := by
  unfold leaf plc
  rw [if_pos rfl]; simp
theorem leaf_1 (v : Int) (l : List Int) (s : Int) (j : Nat) : leaf (plc v l s (j + 1)) = wd [key s ((j + 1 : Nat) : Int), wrap64 (l.getD j 0)] := by
  have e : plc v l s (j + 1) = (((j + 1 : Nat) : Int), wrap64 (l.getD j 0), 0, key s ((j + 1 : Nat) : Int), []) := by
    unfold plc; rw [if_neg (by omega)]; rfl
  rw [e]
  unfold leaf
  exact if_neg (by show ¬ (((j + 1 : Nat) : Int) = 0); omega)
/-- Another block. -/
theorem lvs_b (v : Int) (l : List Int) (s : Int) (j : Nat) (x : Int) : lvs v (l.set j x) s = (lvs v l s).set (j + 1) (leaf (plc v (l.set j x) s (j + 1))) := by
  have hlen : (l.set j x).length = l.length := List.length_set
  apply List.ext_getElem?
  intro i
  rw [List.getElem?_set]
  by_cases h : i ≤ l.length
  · rw [lvs_get v (l.set j x) s (by omega), lvs_get v l s h]
    by_cases hj : j + 1 = i
    · rw [if_pos hj, if_pos (by rw [lvs_len]; omega), hj]
    · rw [if_neg hj]
      unfold plc
      by_cases h0 : i = 0
      · rw [if_pos h0, if_pos h0, hlen]
      · rw [if_neg h0, if_neg h0, List.getD_eq_getElem?_getD, List.getD_eq_getElem?_getD, List.getElem?_set_ne (by omega)]
  · rw [lvs_out v (l.set j x) s (by omega), lvs_out v l s (by omega)]
    by_cases hj : j + 1 = i
    · rw [if_pos hj, if_neg (by rw [lvs_len]; omega)]
    · rw [if_neg hj]
theorem lvs_getD (v : Int) (l : List Int) (s : Int) {i : Nat} (h : i ≤ l.length) : (lvs v l s).getD i 0 = leaf (plc v l s i) := by
  rw [List.getD_eq_getElem?_getD, lvs_get v l s h]; rfl
theorem cmt_v {v w : Int} (hv : S v) (hw : S w) (l : List Int) (s : Int) : cmt w l s = cmt v l s ↔ w = v := by
  have h := (root_set 0 (leaf (plc w l s 0)) (lvs v l s) 0 (by rw [lvs_len]; omega) U0 (lvs_U v l s) (leaf_U _)).1
  rw [← lvs_v v w l s, lvs_getD v l s (Nat.zero_le _), leaf_0, leaf_0, wd_3 (.inr (.inl ⟨rfl, rfl⟩)), S_inj hw hv] at h
  unfold cmt
  rw [eq_comm, h]; simp
theorem cmt_b {v : Int} (l : List Int) (s : Int) {j : Nat} (hj : j < l.length) {x : Int} (hx : U x) (hl : ∀ y ∈ l, U y) : cmt v (l.set j x) s = cmt v l s ↔ x = l.getD j 0 := by
  have h := (root_set 0 (leaf (plc v (l.set j x) s (j + 1))) (lvs v l s) (j + 1) (by rw [lvs_len]; omega) U0 (lvs_U v l s) (leaf_U _)).1
  have hg : (l.set j x).getD j 0 = x := by rw [List.getD_eq_getElem?_getD, List.getElem?_set_self hj]; rfl
  have hu : U (l.getD j 0) := by
    rw [List.getD_eq_getElem?_getD, List.getElem?_eq_getElem hj]
    exact hl _ (List.getElem_mem hj)
  rw [← lvs_b v l s j x, lvs_getD v l s (by omega), leaf_1, leaf_1, hg, wd_2 (.inl rfl), wrap_w64 hx, wrap_w64 hu] at h
  unfold cmt
  rw [eq_comm, h]; simp
theorem cmt_0 (v : Int) (s : Int) : cmt v [] s = wd [key s 0, v, 0] := by
  unfold cmt
  have e : lvs v [] s = [leaf (plc v [] s 0)] := by
    unfold lvs plcs; rfl
  rw [e, root_one, leaf_0]; rfl
theorem cmt_s {v s t : Int} (hs : S s) (ht : S t) : cmt v [] s = cmt v [] t ↔ s = t := by
  rw [cmt_0, cmt_0, wd_3 (.inl ⟨rfl, rfl⟩), S_inj (key_S _ _) (key_S _ _), key_salt 0 hs ht]; simp
/-- Whether a structure is valid: something is said. -/
theorem rvalid_l0 {x : Int × List Int} (hx : 0 ≤ x.1 ∧ x.1 < 1000) (hl : x.2.length ≤ 1000) : ∀ (m i : Nat), x.2.length - i = m → i ≤ x.2.length → ∃ b, Ev2 (fun n k => plexusref06_Valid.l0 n k x (i : Int)) b
  | 0, i, hm, hi => ⟨true, Ev2.step (fun n k => plexusref06_Valid.l0_succ n k _ _) (ev2F (dF (by omega)) (Ev2.now _))⟩
  | m + 1, i, hm, hi => by
    obtain ⟨b, h⟩ := rvalid_l0 hx hl m (i + 1) (by omega) (by omega)
    by_cases h1 : Go.Vx.shF BinOp.shr IntKind.u64 (List.getD x.2 (Int.toNat (i : Int)) (Int.ofNat 0)) (IntKind.wrap IntKind.u64 x.1) = 0
    · by_cases h0 : (i : Int) > 0
      · have e : IntKind.wrap IntKind.i64 ((i : Int) - 1) = ((i - 1 : Nat) : Int) := by rw [wrap_i64', w64 (by omega) (by omega)]; omega
        by_cases h2 : List.getD x.2 (Int.toNat (IntKind.wrap IntKind.i64 ((i : Int) - 1))) (Int.ofNat 0) > List.getD x.2 (Int.toNat (i : Int)) (Int.ofNat 0)
        · refine ⟨false, Ev2.step (fun n k => plexusref06_Valid.l0_succ n k _ _) (ev2T (dT (by omega)) (ev2T (by omega) (ev2T (by omega) (ev2F (by rw [u64_wrap]; omega) (ev2F (nF h1) (ev2T (dT h0) (ev2T (by rw [e]; omega) (ev2T (by rw [e]; omega) (ev2T (by omega) (ev2T (by omega) (ev2T (dT h2) (Ev2.now _))))))))))))⟩
        · refine ⟨b, Ev2.step (fun n k => plexusref06_Valid.l0_succ n k _ _) (ev2T (dT (by omega)) (ev2T (by omega) (ev2T (by omega) (ev2F (by rw [u64_wrap]; omega) (ev2F (nF h1) (ev2T (dT h0) (ev2T (by rw [e]; omega) (ev2T (by rw [e]; omega) (ev2T (by omega) (ev2T (by omega) (ev2F (dF h2) ?_)))))))))))⟩
          rw [inc64 (by omega)]; exact h
      · refine ⟨b, Ev2.step (fun n k => plexusref06_Valid.l0_succ n k _ _) (ev2T (dT (by omega)) (ev2T (by omega) (ev2T (by omega) (ev2F (by rw [u64_wrap]; omega) (ev2F (nF h1) (ev2F (dF h0) ?_))))))⟩
        rw [inc64 (by omega)]; exact h
    · exact ⟨false, Ev2.step (fun n k => plexusref06_Valid.l0_succ n k _ _) (ev2T (dT (by omega)) (ev2T (by omega) (ev2T (by omega) (ev2F (by rw [u64_wrap]; omega) (ev2T (nT h1) (Ev2.now _))))))⟩
theorem rvalid_f (x : Int × List Int) (hl : x.2.length ≤ 1000) : ∃ b, Ev (fun k => plexusref06_Valid.m k x) b := by
  by_cases h1 : x.1 < 1
  · exact ⟨false, evX (fun k => plexusref06_Valid.m_eq k _) (evT (dT h1) (Ev.now _))⟩
  by_cases h2 : x.1 > 16
  · exact ⟨false, evX (fun k => plexusref06_Valid.m_eq k _) (evF (dF h1) (evT (dT h2) (Ev.now _)))⟩
  by_cases h3 : (x.2.length : Int) > 64
  · exact ⟨false, evX (fun k => plexusref06_Valid.m_eq k _) (evF (dF h1) (evF (dF h2) (evT (dT h3) (Ev.now _))))⟩
  obtain ⟨b, h⟩ := rvalid_l0 (x := x) (by omega) hl x.2.length 0 (by omega) (by omega)
  exact ⟨b, evX (fun k => plexusref06_Valid.m_eq k _) (evF (dF h1) (evF (dF h2) (evF (dF h3) h.diag)))⟩
end Go.Proofs.YtchpkglnmpmcmaaQ
