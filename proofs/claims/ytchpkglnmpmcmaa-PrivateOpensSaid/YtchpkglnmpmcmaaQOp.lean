/- PrivateOpens, but for the examples. -/
import Derived.Test.YtchpkglnmpmcmaaQOa
import Derived.Test.YtchpkglnmpmcmaaX47O
namespace Go.Proofs.YtchpkglnmpmcmaaQ
set_option linter.unusedVariables false
set_option linter.unusedSimpArgs false
open Go Go.RowKit Go.Proofs.Ytchpkglnmpmcmaa.V47 Go.Proofs.YtchpkglnmpmcmaaW.PrintWords Go.Proofs.YtchpkglnmpmcmaaW.PrintLast Go.Proofs.YtchpkglnmpmcmaaW.PrintMore
theorem opens_l0 {v : Nat} (h1 : 1 ≤ v) (h7 : v ≤ 16) {l : List Int} (hl : l.length ≤ 64) (ha : Asc l) (hp : ∀ b ∈ l, PB v b) (s : Int) : ∀ (m i : Nat), l.length + 1 - i = m → i ≤ l.length + 1 →
    Ev2 (fun n k => plexuslaw47_PrivateOpens.l0 n k s true ((v : Int), l) (cmt v l s) (opns v l s, true) (i : Int)) true
  | 0, i, hm, hi => by
    obtain rfl : i = l.length + 1 := by omega
    refine Ev2.step (fun n k => plexuslaw47_PrivateOpens.l0_succ n k _ _ _ _ _ _) ?_
    refine ev2F (dF (by show ¬ (((l.length + 1 : Nat) : Int) < ((opns v l s).length : Int)); rw [opns_len]; omega)) ?_
    have hw := whole_opens h1 h7 hl ha hp s (L := opns v l s) (by rw [opns_len]; omega) (fun o ho => opns_mem ho) (fun i hi => List.mem_of_getElem? (opns_get _ _ _ hi))
    refine Ev2.bind hw (ev2T (by first | rfl | trivial) (Ev2.bind (is_f ((v : Int), l) (by show l.length ≤ _; omega)) (ev2T rfl ?_)))
    have hag := agrees_f (cmt v l s) ((v : Int), l) s (by show l.length ≤ _; omega)
    rw [show (cmt ((v : Int), l).1 ((v : Int), l).2 s == cmt v l s) = true from beq_self_eq_true _] at hag
    exact Ev2.bind hag (Ev2.now _)
  | m + 1, i, hm, hi => by
    have hi' : i ≤ l.length := by omega
    have next := opens_l0 h1 h7 hl ha hp s m (i + 1) (by omega) (by omega)
    have hU : ∀ y ∈ l, U y := fun y hy => PB_U (by omega) (hp y hy)
    refine Ev2.step (fun n k => plexuslaw47_PrivateOpens.l0_succ n k _ _ _ _ _ _) ?_
    have eg := opns_getD v l s hi' (Int.ofNat 0, Int.ofNat 0, Int.ofNat 0, Int.ofNat 0, [])
    have hlt : (i : Int) < ((opns v l s).length : Int) := by rw [opns_len]; omega
    simp only [eg]
    refine ev2T (dT hlt) (ev2T (by omega) (ev2T hlt (ev2F (nF (opn_at _ _ _ _)) (ev2T (by omega) (ev2T hlt ?_)))))
    refine Ev2.bind (checked_of (pcheck_opn v l hl s hi')) (ev2F (nF rfl) ?_)
    rw [inc64 (by omega)]
    by_cases h0 : i = 0
    · subst h0
      have e1 : (opn v l s 0).2.1 = (v : Int) := (opn_says v l s 0).trans rfl
      have e2 : (opn v l s 0).2.2.1 = (l.length : Int) := (opn_b v l s 0).trans rfl
      refine ev2T (bT rfl) (ev2T (by omega) (ev2T hlt (ev2F (nF e1) (ev2T (by omega) (ev2T hlt (ev2F (nF e2) (ev2F (dF (by omega)) next)))))))
    · obtain ⟨j, rfl⟩ : ∃ j, i = j + 1 := ⟨i - 1, by omega⟩
      have hj : j < l.length := by omega
      have e0 : IntKind.wrap IntKind.i64 (((j + 1 : Nat) : Int) - 1) = (j : Int) := dec64 (by omega)
      have e1 : IntKind.wrap IntKind.u64 (opn v l s (j + 1)).2.1 = List.getD l (Int.toNat (j : Int)) (Int.ofNat 0) := by
        rw [opn_says]
        unfold saysAt
        rw [if_neg (by omega), Nat.add_sub_cancel, getD_get hj, List.getD_eq_getElem?_getD, List.getElem?_eq_getElem hj]
        exact wrap_w64 (hU _ (List.getElem_mem hj))
      have e2 : (opn v l s (j + 1)).2.2.1 = 0 := (opn_b v l s (j + 1)).trans (if_neg (by omega))
      rw [e0]
      refine ev2F (bF (by omega)) (ev2T (dT (by omega)) (ev2T (by omega) (ev2T hlt (ev2T (by omega) (ev2T (by show (j : Int) < (l.length : Int); omega) (ev2F (nF e1) (ev2T (by omega) (ev2T hlt (ev2F (nF e2) next)))))))))
theorem opens_of (hex : Ev (fun k => plexuslaw47_examples.m k) true) {a0 : List Int} (ha : ∀ x ∈ a0, BY x) {s : Int} : Ev (fun k => plexuslaw47_PrivateOpens.m k a0 s) true := by
  obtain ⟨v, ⟨xv, l⟩, hv1, hv7, ok, hm⟩ := made_f ha
  obtain rfl : xv = (v : Int) := ok.pts
  have hlen : l.length ≤ 10 := ok.len
  refine evX (fun k => plexuslaw47_PrivateOpens.m_eq k _ _) ?_
  refine Ev.bind hex (evF (by decide) (Ev.bind hm ?_))
  have hc := commit_f ((v : Int), l) s (by show l.length ≤ _; omega)
  have hlv := leaves_f ((v : Int), l) s (by show l.length ≤ _; omega)
  refine Ev.bind hc (Ev.bind (every_f ((v : Int), l) s (by show l.length ≤ _; omega)) (evF (notF rfl) (Ev.bind hlv (evF (nF ?_) (Ev.bind hlv ?_)))))
  · show ((lvs v l s).length : Int) = IntKind.wrap IntKind.i64 ((l.length : Int) + 1)
    rw [wrap_i64', w64 (by omega) (by omega), lvs_len]; omega
  have hr := root_f (l.length + 1) (lvs (v : Int) l s) (lvs_len _ _ _) (by omega) (by omega) (lvs_U _ _ _)
  refine Ev.bind hr (evF (nF rfl) ?_)
  have h0 := opens_l0 hv1 (by omega) (l := l) (by omega) ok.asc ok.pb s (l.length + 1) 0 (by omega) (by omega)
  exact h0.diag
end Go.Proofs.YtchpkglnmpmcmaaQ
