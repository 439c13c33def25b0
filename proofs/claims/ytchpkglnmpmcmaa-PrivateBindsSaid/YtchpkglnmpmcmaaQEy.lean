/- Private: the examples come out true (under way). -/
import Derived.Test.YtchpkglnmpmcmaaQEx
import Derived.Test.YtchpkglnmpmcmaaX47E
namespace Go.Proofs.YtchpkglnmpmcmaaQ
set_option linter.unusedVariables false
set_option linter.unusedSimpArgs false
open Go Go.RowKit Go.Proofs.Ytchpkglnmpmcmaa.V47 Go.Proofs.YtchpkglnmpmcmaaW.PrintWords Go.Proofs.YtchpkglnmpmcmaaW.PrintLast Go.Proofs.YtchpkglnmpmcmaaW.PrintMore
theorem ex_X : Ev (fun k => plexuslaw47_shown.m k (2, []) 5 0) (oX, 0) := by
  have h := shown_f (2, []) 5 (by simp) (i := 0) (by simp)
  rw [show opn ((2, []) : Int × List Int).1 ((2, []) : Int × List Int).2 5 0 = oX from opn_X] at h
  exact h
theorem ex_P : Ev (fun k => plexuslaw47_shown.m k (3, [3]) 5 1) (oP, 0) := by
  have h := shown_f (3, [3]) 5 (by simp) (i := 1) (by simp)
  rw [show opn ((3, [3]) : Int × List Int).1 ((3, [3]) : Int × List Int).2 5 1 = oP from opn_P] at h
  exact h
theorem ex_Q : Ev (fun k => plexuslaw47_shown.m k (3, [3]) 5 0) (oQ, 0) := by
  have h := shown_f (3, [3]) 5 (by simp) (i := 0) (by simp)
  rw [show opn ((3, [3]) : Int × List Int).1 ((3, [3]) : Int × List Int).2 5 0 = oQ from opn_Q] at h
  exact h
theorem ex_cP : Ev (fun k => plexuslaw47_checked.m k (cmt 3 [3] 5) 1 oP) 0 := by
  have h0 := chk_opn 3 [3] 5 (i := 1) (by simp)
  rw [opn_P] at h0
  have h := checked_f (r := cmt 3 [3] 5) (n := 1) (i := 1) (o := oP) (by omega) (by omega) rfl (fun x hx => by rw [List.mem_singleton.1 hx]; exact leaf_U _)
  rw [show chk (cmt 3 [3] 5) 1 1 oP = 0 from h0] at h
  exact h
theorem ex_pP : Ev (fun k => private_Check.m k (cmt 3 [3] 5) 1 oP) 0 := by
  have h0 := chk_opn 3 [3] 5 (i := 1) (by simp)
  rw [opn_P] at h0
  have h := pcheck_f (r := cmt 3 [3] 5) (n := 1) (i := 1) (o := oP) (by omega) (by omega) rfl (fun x hx => by rw [List.mem_singleton.1 hx]; exact leaf_U _)
  rw [show chk (cmt 3 [3] 5) 1 1 oP = 0 from h0] at h
  exact h
theorem ex_pQ : Ev (fun k => private_Check.m k (cmt 3 [3] 5) 1 oQ) 0 := by
  have h0 := chk_opn 3 [3] 5 (i := 0) (by simp)
  rw [opn_Q] at h0
  have h := pcheck_f (r := cmt 3 [3] 5) (n := 1) (i := 0) (o := oQ) (by omega) (by omega) rfl (fun x hx => by rw [List.mem_singleton.1 hx]; exact leaf_U _)
  rw [show chk (cmt 3 [3] 5) 1 0 oQ = 0 from h0] at h
  exact h
theorem ex_bentc : Ev (fun k => plexuslaw47_checked.m k (cmt 3 [3] 5) 1 (1, 1, 0, key 5 1, [leaf (plc 3 [3] 5 0)])) 470 := by
  have h := checked_f (r := cmt 3 [3] 5) (n := 1) (i := 1) (o := (1, 1, 0, key 5 1, [leaf (plc 3 [3] 5 0)])) (by omega) (by omega) rfl (fun x hx => by rw [List.mem_singleton.1 hx]; exact leaf_U _)
  rw [ex_bent] at h
  exact h
theorem ex_none : Ev (fun k => plexuslaw47_whole.m k (cmt 3 [3] 5) 1 [oP]) ((0, []), 4) :=
  whole_of (by simp) (pwhole_none (n := 1) (by omega) (by simp) (fun o ho => by rw [List.mem_singleton.1 ho]; exact ex_pP) (M := [(1, 3)]) rfl (by simp))
theorem ex_whole : Ev (fun k => plexuslaw47_whole.m k (cmt 3 [3] 5) 1 [oP, oQ]) ((3, [3]), 0) := by
  have hv : Ev (fun k => incidence_Valid.m k ((3 : Int), [3])) true := valid_f (v := 3) (by omega) (by omega) (l := [3]) (by simp) (by simp [Asc]) (fun b hb => by rw [List.mem_singleton.1 hb]; exact ⟨by decide, by decide⟩)
  have h := pwhole_f (r := cmt 3 [3] 5) (n := 1) (by omega) (L := [oP, oQ]) (by simp) (fun o ho => by
    rcases List.mem_cons.1 ho with q | q
    · rw [q]; exact ex_pP
    · rw [List.mem_singleton.1 q]; exact ex_pQ) (M := [(1, 3), (0, 3)]) rfl (by simp) (b := true) hv
  exact whole_of (by simp) h
end Go.Proofs.YtchpkglnmpmcmaaQ
