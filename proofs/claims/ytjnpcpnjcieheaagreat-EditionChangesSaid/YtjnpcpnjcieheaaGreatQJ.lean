/- A signed chain in which something is another one is not signed. -/
import Derived.Test.YtjnpcpnjcieheaaGreatQI
namespace Go.Proofs.YtjnpcpnjcieheaaGreatQ
set_option linter.unusedVariables false
set_option linter.unusedSimpArgs false
open Go Go.RowKit Go.Proofs.YtjnpcpnjcieheaaGreat.P47 Go.Proofs.YtjnpcpnjcieheaaGreat.V48 Go.Proofs.YtjnpcpnjcieheaaGreatW.PrintWords Go.Proofs.YtjnpcpnjcieheaaGreatW.PrintLast Go.Proofs.YtjnpcpnjcieheaaGreatW.PrintMore

theorem ed_self {c : List ED} {i : Nat} (hi : i < c.length) (e : ED) : ed (c.set i e) i = e := by rw [ed_get (by rw [List.length_set]; exact hi), List.getElem_set_self]
theorem ed_other {c : List ED} {i j : Nat} (h : i ≠ j) (e : ED) : ed (c.set i e) j = ed c j := by unfold ed; rw [List.getD_eq_getElem?_getD, List.getD_eq_getElem?_getD, List.getElem?_set_ne h]
theorem changed_sig {key : Int} (hk : U key) {c : List ED} (hs : Sig key c) (hr : ∀ e ∈ c, U e.2.2.1) {i : Nat} (hi : i < c.length) {e : ED} (h : e.2.2.1 = (ed c i).2.2.1 ∨ (U e.2.2.1 ∧ e.2.2.2 = (ed c i).2.2.2)) : Sig key (c.set i e) ↔ e = ed c i := by
  constructor
  · intro q
    obtain ⟨a1, a2, a3⟩ := ok_iff.1 (q i (by rw [List.length_set]; exact hi))
    obtain ⟨b1, b2, b3⟩ := ok_iff.1 (hs i hi)
    have p : pv (c.set i e) i = pv c i := by
      unfold pv
      by_cases z : i = 0
      · rw [if_pos z, if_pos z]
      · rw [if_neg z, if_neg z, ed_other (by omega)]
    rw [p] at a2
    rw [ed_self hi] at a1 a2 a3
    have h1 : e.1 = (ed c i).1 := by rw [a1, b1]
    have h2 : e.2.1 = (ed c i).2.1 := by rw [a2, b2]
    have h3 : e.2.2.1 = (ed c i).2.2.1 := by
      rcases h with h | ⟨hu, h⟩
      · exact h
      · rw [a3, b3, h1, h2, tg_root hk _ _ hu (by rw [ed_get hi]; exact hr _ (List.getElem_mem hi))] at h
        exact h
    exact Prod.ext h1 (Prod.ext h2 (Prod.ext h3 (by rw [a3, b3, h1, h2, h3])))
  · rintro rfl
    rw [ed_get hi, List.set_getElem_self hi]
    exact hs
theorem ed_no {key : Int} {c : List ED} (hs : Sig key c) {i : Nat} (hi : i < c.length) : (ed c i).1 = ((i + 1 : Nat) : Int) := (ok_iff.1 (hs i hi)).1
theorem turned_sig {key : Int} {c : List ED} (hs : Sig key c) {i j : Nat} (hi : i < c.length) (hj : j < c.length) : Sig key ((c.set i (ed c j)).set j (ed c i)) ↔ i = j := by
  constructor
  · intro q
    by_cases z : i = j
    · exact z
    · have := ed_no q (i := i) (by simp; exact hi)
      rw [ed_other (fun w => z w.symm), ed_self hi, ed_no hs hj] at this
      omega
  · rintro rfl
    rw [List.set_set, ed_get hi, List.set_getElem_self hi]
    exact hs
theorem drop_sig {key : Int} {c : List ED} (hs : Sig key c) (h : 0 < c.length) : Sig key (c.drop 1) ↔ c.length = 1 := by
  constructor
  · intro q
    by_cases z : c.length = 1
    · exact z
    · have := ed_no q (i := 0) (by simp; omega)
      have e : ed (c.drop 1) 0 = ed c 1 := by unfold ed; rw [List.getD_eq_getElem?_getD, List.getD_eq_getElem?_getD, List.getElem?_drop]
      rw [e, ed_no hs (by omega)] at this
      omega
  · intro z i hi
    rw [List.length_drop] at hi
    omega
open Classical in
theorem cmp_of {P : Prop} [Decidable P] {b : Bool} (h : P ↔ b = true) : (((if P then (0 : Int) else 480) == 0) == b) = true := by
  by_cases p : P
  · rw [if_pos p, h.1 p]; rfl
  · have : b = false := Bool.eq_false_iff.2 fun q => p (h.2 q)
    rw [if_neg p, this]; rfl
theorem changed_e {e : ED} {kind by_ : Int} (hb : U by_) : ∃ d : ED, (d.2.2.1 = e.2.2.1 ∨ (U d.2.2.1 ∧ d.2.2.2 = e.2.2.2)) ∧ Ev (fun k => plexuslaw48_changed.m k e kind by_) d := by
  by_cases c0 : (Go.Vx.divF BinOp.rem IntKind.u8 kind 4 == 0) = true
  · exact ⟨(IntKind.wrap IntKind.i64 by_, e.2.1, e.2.2.1, e.2.2.2), .inl rfl, evX (fun k => plexuslaw48_changed.m_eq k _ _ _) (evT c0 (Ev.now _))⟩
  by_cases c1 : (Go.Vx.divF BinOp.rem IntKind.u8 kind 4 == 1) = true
  · exact ⟨(e.1, by_, e.2.2.1, e.2.2.2), .inl rfl, evX (fun k => plexuslaw48_changed.m_eq k _ _ _) (evF c0 (evT c1 (Ev.now _)))⟩
  by_cases c2 : (Go.Vx.divF BinOp.rem IntKind.u8 kind 4 == 2) = true
  · exact ⟨(e.1, e.2.1, by_, e.2.2.2), .inr ⟨hb, rfl⟩, evX (fun k => plexuslaw48_changed.m_eq k _ _ _) (evF c0 (evF c1 (evT c2 (Ev.now _))))⟩
  · exact ⟨(e.1, e.2.1, e.2.2.1, by_), .inl rfl, evX (fun k => plexuslaw48_changed.m_eq k _ _ _) (evF c0 (evF c1 (evF c2 (Ev.now _))))⟩
open Classical in
theorem changes_of {x : Int × List (Int × Int × List (List Int))} (hk : U x.1) (hb : ∀ y ∈ x.2, ∀ l ∈ y.2.2, ∀ b ∈ l, BY b) {a : Int × Int × Int} (h0 : BY a.1) (h1 : BY a.2.1) (h2 : BY a.2.2) {by_ : Int} (hby : U by_) : Ev (fun k => plexuslaw48_EditionChanges.m k x a by_) true := by
  obtain ⟨c, hc, mc⟩ := made48_f hk hb
  have hl := hc.len
  have k0 := check_e hk (c := c) (by omega)
  rw [if_pos hc.sig] at k0
  refine evX (fun k => plexuslaw48_EditionChanges.m_eq k _ _ _) (Ev.bind ex_f (evF (by decide) (Ev.bind mc (Ev.bind k0 (evF (by decide) ?_)))))
  by_cases hn : c.length = 0
  · exact evT (bT (by omega)) (Ev.now _)
  refine evF (bF (by omega)) (evF (by omega) (evF (by omega) (evT (by omega) (evT (by omega) ?_))))
  obtain ⟨i, hi, ei⟩ := rem_idx (n := c.length) h0 (by omega) (by omega)
  obtain ⟨j, hj, ej⟩ := rem_idx (n := c.length) h2 (by omega) (by omega)
  have gi : List.getD c i (Int.ofNat 0, Int.ofNat 0, Int.ofNat 0, Int.ofNat 0) = ed c i := rfl
  have gj : List.getD c j (Int.ofNat 0, Int.ofNat 0, Int.ofNat 0, Int.ofNat 0) = ed c j := rfl
  simp only [ei, ej, Int.toNat_natCast, gi, gj]
  obtain ⟨e, he, me⟩ := changed_e (e := ed c i) (kind := a.2.1) hby
  refine evT (by omega) (evT (by omega) (Ev.bind me ?_))
  refine evT (by omega) (evT (by omega) (evT (by omega) (evT (by omega) (evT (by omega) (evT (by omega) (evT (by omega) (evT (by omega) (evT (by omega) (evT (by rw [List.length_set]; omega) ?_)))))))))
  have k1 := check_e hk (c := c.set i e) (by rw [List.length_set]; omega)
  refine Ev.bind k1 (evT (by omega) (evT (by rw [List.length_set]; omega) (evT (by omega) (evT (by omega) (evT ?_ ?_)))))
  · refine cmp_of ?_
    rw [changed_sig hk hc.sig hc.rts hi he]
    have g3 : List.getD (c.set i (e.1, e.2.1, e.2.2.1, e.2.2.2)) i (Int.ofNat 0, Int.ofNat 0, Int.ofNat 0, Int.ofNat 0) = e := ed_self hi e
    rw [g3]
    exact (eq4 e (ed c i)).symm
  have k2 := check_e hk (c := (c.set i (ed c j)).set j (ed c i)) (by rw [List.length_set, List.length_set]; omega)
  refine Ev.bind k2 (evT ?_ (evT (by omega) ?_))
  · refine cmp_of ?_
    rw [turned_sig hc.sig hi hj, beq_iff_eq]
    omega
  have k3 := check_e hk (c := c.drop 1) (by rw [List.length_drop]; omega)
  refine Ev.bind k3 (evT ?_ (Ev.now _))
  refine cmp_of ?_
  rw [drop_sig hc.sig (by omega), beq_iff_eq]
  omega

end Go.Proofs.YtjnpcpnjcieheaaGreatQ
