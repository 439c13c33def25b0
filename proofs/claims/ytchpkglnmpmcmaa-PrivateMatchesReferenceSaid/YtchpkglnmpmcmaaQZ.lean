/- Several texts joined. -/
import Derived.Test.YtchpkglnmpmcmaaQC
import Derived.Test.YtchpkglnmpmcmaaX47E
/- Private: the examples come out true (under way). -/
namespace Go.Proofs.YtchpkglnmpmcmaaQ
set_option linter.unusedVariables false
set_option linter.unusedSimpArgs false
open Go Go.RowKit Go.Proofs.Ytchpkglnmpmcmaa.V47 Go.Proofs.YtchpkglnmpmcmaaW.PrintWords Go.Proofs.YtchpkglnmpmcmaaW.PrintLast Go.Proofs.YtchpkglnmpmcmaaW.PrintMore
theorem ex_X : Ev (fun k => plexuslaw47_shown.m k (2, []) 5 0) (oX, 0) := by
  have h := shown_f (2, []) 5 (by simp) (i := 0) (by simp)
  rw [show opn ((2, []) : Int × List Int).1 ((2, []) : Int × List Int).2 5 0 = oX from opn_X] at h
  exact h
theorem ex_P : Ev (fun k => plexuslaw47_shown.m k (3, [3]) 5 1) (oP, 0) := by
  have h := shown_f (3, [3]) 5 (by simp) (i := 1) (by simp)
  rw [show opn ((3, [3]) : Int × List Int).1 ((3, [3]) : Int × List Int).2 5 1 = oP from opn_P] at h
  exact h
theorem ex_Q : Ev (fun k => plexuslaw47_shown.m k (3, [3]) 5 0) (oQ, 0) := by
  have h := shown_f (3, [3]) 5 (by simp) (i := 0) (by simp)
  rw [show opn ((3, [3]) : Int × List Int).1 ((3, [3]) : Int × List Int).2 5 0 = oQ from opn_Q] at h
  exact h
theorem ex_cP : Ev (fun k => plexuslaw47_checked.m k (cmt 3 [3] 5) 1 oP) 0 := by
  have h0 := chk_opn 3 [3] 5 (i := 1) (by simp)
  rw [opn_P] at h0
  have h := checked_f (r := cmt 3 [3] 5) (n := 1) (i := 1) (o := oP) (by omega) (by omega) rfl (fun x hx => by rw [List.mem_singleton.1 hx]; exact leaf_U _)
  rw [show chk (cmt 3 [3] 5) 1 1 oP = 0 from h0] at h
  exact h
theorem ex_pP : Ev (fun k => private_Check.m k (cmt 3 [3] 5) 1 oP) 0 := by
  have h0 := chk_opn 3 [3] 5 (i := 1) (by simp)
  rw [opn_P] at h0
  have h := pcheck_f (r := cmt 3 [3] 5) (n := 1) (i := 1) (o := oP) (by omega) (by omega) rfl (fun x hx => by rw [List.mem_singleton.1 hx]; exact leaf_U _)
  rw [show chk (cmt 3 [3] 5) 1 1 oP = 0 from h0] at h
  exact h
theorem ex_pQ : Ev (fun k => private_Check.m k (cmt 3 [3] 5) 1 oQ) 0 := by
  have h0 := chk_opn 3 [3] 5 (i := 0) (by simp)
  rw [opn_Q] at h0
  have h := pcheck_f (r := cmt 3 [3] 5) (n := 1) (i := 0) (o := oQ) (by omega) (by omega) rfl (fun x hx => by rw [List.mem_singleton.1 hx]; exact leaf_U _)
  rw [show chk (cmt 3 [3] 5) 1 0 oQ = 0 from h0] at h
  exact h
theorem ex_bentc : Ev (fun k => plexuslaw47_checked.m k (cmt 3 [3] 5) 1 (1, 1, 0, key 5 1, [leaf (plc 3 [3] 5 0)])) 470 := by
  have h := checked_f (r := cmt 3 [3] 5) (n := 1) (i := 1) (o := (1, 1, 0, key 5 1, [leaf (plc 3 [3] 5 0)])) (by omega) (by omega) rfl (fun x hx => by rw [List.mem_singleton.1 hx]; exact leaf_U _)
  rw [ex_bent] at h
  exact h
theorem ex_none : Ev (fun k => plexuslaw47_whole.m k (cmt 3 [3] 5) 1 [oP]) ((0, []), 4) :=
  whole_of (by simp) (pwhole_none (n := 1) (by omega) (by simp) (fun o ho => by rw [List.mem_singleton.1 ho]; exact ex_pP) (M := [(1, 3)]) rfl (by simp))
theorem ex_whole : Ev (fun k => plexuslaw47_whole.m k (cmt 3 [3] 5) 1 [oP, oQ]) ((3, [3]), 0) := by
  have hv : Ev (fun k => incidence_Valid.m k ((3 : Int), [3])) true := valid_f (v := 3) (by omega) (by omega) (l := [3]) (by simp) (by simp [Asc]) (fun b hb => by rw [List.mem_singleton.1 hb]; exact ⟨by decide, by decide⟩)
  have h := pwhole_f (r := cmt 3 [3] 5) (n := 1) (by omega) (L := [oP, oQ]) (by simp) (fun o ho => by
    rcases List.mem_cons.1 ho with q | q
    · rw [q]; exact ex_pP
    · rw [List.mem_singleton.1 q]; exact ex_pQ) (M := [(1, 3), (0, 3)]) rfl (by simp) (b := true) hv
  exact whole_of (by simp) h
end Go.Proofs.YtchpkglnmpmcmaaQ
/- Private: the examples come out true. -/
namespace Go.Proofs.YtchpkglnmpmcmaaQ
set_option linter.unusedVariables false
set_option linter.unusedSimpArgs false
open Go Go.RowKit Go.Proofs.Ytchpkglnmpmcmaa.V47 Go.Proofs.YtchpkglnmpmcmaaW.PrintWords Go.Proofs.YtchpkglnmpmcmaaW.PrintLast Go.Proofs.YtchpkglnmpmcmaaW.PrintMore
theorem ex_lv : lvs 3 [3] 5 = [leaf (plc 3 [3] 5 0), leaf (plc 3 [3] 5 1)] := rfl
theorem ex_lf : Ev (fun k => private_Leaves.m k (3, [3]) 5) [leaf (plc 3 [3] 5 0), leaf (plc 3 [3] 5 1)] := leaves_f (3, [3]) 5 (by simp)
theorem ex_c2 : Ev (fun k => private_Commit.m k (2, []) 5) (cmt 2 [] 5) := commit_f (2, []) 5 (by simp)
theorem ex_c3 : Ev (fun k => private_Commit.m k (3, [3]) 5) (cmt 3 [3] 5) := commit_f (3, [3]) 5 (by simp)
theorem ex_is : Ev (fun k => plexuslaw47_is.m k ((3, [3]), 0) (3, [3])) true := by
  refine evX (fun k => plexuslaw47_is.m_eq k _ _) (evT rfl ?_)
  refine Ev.bind (a := true) ?_ (Ev.now _)
  refine evX (fun k => plexusref06_Same.m_eq k _ _) (evT rfl ?_)
  refine Ev.bind (a := true) ?_ (Ev.now _)
  refine evX (fun k => plexusref06_SameBlocks.m_eq k _ _) (evF (by decide) ?_)
  have h : Ev2 (fun n k => plexusref06_SameBlocks.l0 n k [3] [3] 0) true := by
    refine Ev2.step (fun n k => plexusref06_SameBlocks.l0_succ n k _ _ _) ?_
    refine ev2T (by decide) (ev2T (by decide) (ev2T (by decide) (ev2T (by decide) (ev2T (by decide) (ev2F (by decide) ?_)))))
    refine Ev2.step (fun n k => plexusref06_SameBlocks.l0_succ n k _ _ _) ?_
    exact ev2F (by decide) (Ev2.now _)
  exact h.diag
theorem examples_f : Ev (fun k => plexuslaw47_examples.m k) true := by
  refine evX (fun k => plexuslaw47_examples.m_eq k) ?_
  refine Ev.bind ex_X (Ev.bind ex_P (Ev.bind ex_lf (Ev.bind ex_c2 (Ev.bind (rkey_f 5 0) (Ev.bind (a := wd [key 5 0, 2, 0]) (Ev.now _) (evF (nF (cmt_0 2 5)) ?_))))))
  refine evF (nF rfl) (evF (nF rfl) (evF (nF rfl) (evF (nF rfl) (evF (nF rfl) (Ev.bind ex_c3 ?_)))))
  have hj : Ev (fun k => seal_Join.m k (leaf (plc 3 [3] 5 0)) (leaf (plc 3 [3] 5 1))) (jn (leaf (plc 3 [3] 5 0)) (leaf (plc 3 [3] 5 1))) := ⟨0, fun k _ => sjoin_m k (leaf_U _) (leaf_U _)⟩
  refine evT (by decide) (evT (by decide) (Ev.bind hj (evF (nF (cmt_1 3 3 5)) ?_)))
  refine evF (nF rfl) (evF (nF rfl) (evF (nF rfl) (evT (by decide) (evT (by decide) (evF (nF rfl) ?_)))))
  refine Ev.bind (shown_arg (3, [3]) 5 2 (.inr (by decide))) (evF (nF rfl) ?_)
  have hag := agrees_f (cmt 3 [3] 5) (3, [3]) 5 (by simp)
  rw [show (cmt ((3, [3]) : Int × List Int).1 ((3, [3]) : Int × List Int).2 5 == cmt 3 [3] 5) = true from beq_self_eq_true _] at hag
  refine Ev.bind ex_c3 (Ev.bind hag (evF (notF rfl) ?_))
  have hxn := xor_ne (cmt_U 3 [3] 5) (b := 1) ⟨by decide, by decide⟩ (by decide)
  refine Ev.bind ex_c3 ?_
  generalize IntKind.wrap IntKind.u64 (↑(BitVec.toNat (BitVec.ofInt (IntKind.bits IntKind.u64) (cmt 3 [3] 5) ^^^ BitVec.ofInt (IntKind.bits IntKind.u64) 1)) : Int) = z at hxn ⊢
  have hag2 := agrees_f z (3, [3]) 5 (by simp)
  rw [show (cmt ((3, [3]) : Int × List Int).1 ((3, [3]) : Int × List Int).2 5 == z) = false from beq_eq_false_iff_ne.2 (Ne.symm hxn)] at hag2
  refine Ev.bind hag2 (evF (by decide) (Ev.bind ex_c3 (Ev.bind ex_cP (evT rfl ?_))))
  refine Ev.bind ex_bentc (evT rfl (Ev.bind (checked_of (pcheck_arg (r := cmt 3 [3] 5) (n := 0) (o := oP) (.inr (.inr (.inr (by decide)))))) (evT rfl ?_)))
  refine Ev.bind ex_Q (Ev.bind ex_whole (Ev.bind ex_is (evT rfl (Ev.bind ex_none (Ev.now _)))))
end Go.Proofs.YtchpkglnmpmcmaaQ
