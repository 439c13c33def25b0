/- The law that the row states of plexus/plexuslaw46.JournalForm: for every input the answer is true. Under no condition. -/
import Derived.Test.YtcanekmlabehgaaP46x9
import Derived.Test.YtcanekmlabehgaaQJi
namespace Go.Proofs.Ytcanekmlabehgaa.Pure
set_option linter.unusedVariables false
set_option linter.unusedSimpArgs false
open Go.RowKit Go.Proofs.Ytcanekmlabehgaa.P46 Go.Proofs.YtcanekmlabehgaaW.PrintWords Go.Proofs.YtcanekmlabehgaaW.PrintLast Go.Proofs.YtcanekmlabehgaaW.PrintMore Go.Proofs.YtcanekmlabehgaaQ
theorem form_u8 {a : Int} (h : (Lit.int .u8 a).wf = true) : BY a := by
  simp [Lit.wf, IntKind.min, IntKind.max, IntKind.signed, IntKind.bits] at h
  exact ⟨by omega, by omega⟩
theorem form_j0 (b : List Int) (hb : ∀ x ∈ b, BY x) (h2 : b.length ≤ 2000) (l m : List (List Int)) (hfl : Fit l) (hfm : Fit m) (hnl : l.length ≤ 12) (hnm : m.length ≤ 12) (hsl : ∀ r ∈ l, r.length ≤ 12) (hsm : ∀ r ∈ m, r.length ≤ 12) :
    Ev (fun q => plexuslaw46_JournalForm.j0 q b l m true false) true := by
  obtain ⟨e1, e2, e3, e4⟩ := par_all (b.length + 1) 0 b hb (by omega)
  generalize (par (b.length + 1) 0 b).1 = rs at *
  generalize (par (b.length + 1) 0 b).2 = t at *
  have hjr := jn_len rs 0
  have hsum : b.length = jl rs + t.length := by rw [e1, List.length_append, hjr]
  have hge := jn_ge rs 0
  have hfew : ∀ r ∈ rs, r.length ≤ 1000 := fun r hr => by have := (e2 r hr).1; omega
  have hW := whole_jn e2 e3 e4 (by rw [← e1]; omega)
  have hA := read_jn (t := []) e2 (dec_nil _) (by simp) (by rw [List.append_nil]; omega)
  have hB := read_jn e2 e3 e4 (by rw [← e1]; omega)
  have hM := made_g e2 (by omega)
  rw [List.append_nil, if_pos rfl] at hA
  rw [← e1] at hW hB
  have hzl := jl_few l hsl
  have hzm := jl_few m hsm
  refine Ev.step (fun q => by rw [plexuslaw46_JournalForm.j0]) ?_
  refine evJF Bool.false_ne_true ?_
  refine Ev.bind hW (Ev.bind hA (Ev.bind hM (Ev.bind hB (evJT rfl ?_))))
  refine Ev.bind (sev46 _) (evJT rfl ?_)
  refine Ev.bind (recs_f (l := rs) (by omega) hfew) (evJT rfl ?_)
  refine evJT (by
    show wrap64 (((jn 0 rs).length : Int) + (t.length : Int)) = (b.length : Int)
    rw [w64 (by omega) (by omega)]; omega) ?_
  refine evJF (by
    show ¬ ((((if t = [] then 0 else 460 : Int) == 0) != ((t.length : Int) == 0)) = true)
    by_cases ht : t = []
    · subst ht; simp
    · have hp := List.length_pos_iff.2 ht
      rw [if_neg ht, beq_eq_false_iff_ne.2 (show (460 : Int) ≠ 0 by decide), beq_eq_false_iff_ne.2 (show (t.length : Int) ≠ 0 by omega)]
      simp) ?_
  refine Ev.bind (made_g hfl (by omega)) (Ev.bind (made_g hfm (by omega)) ?_)
  refine Ev.bind (same_dec (jn_by l 0) (jn_by m 0)) ?_
  refine Ev.bind (recs_dec (l := l) (m := m) (by omega) (fun r hr => by have := hsl r hr; omega)) ?_
  refine evJT ?_ (Ev.now _)
  rw [beq_iff_eq]
  by_cases h : l = m
  · rw [decide_eq_true h, decide_eq_true (show jn 0 l = jn 0 m by rw [h])]
  · rw [decide_eq_false h, decide_eq_false (fun e => h (jn_inj hfl hfm e))]
theorem JournalForm : plexuslaw46_JournalForm.Pure := by
  intro b l m hb hl hm
  have hB : ∀ x ∈ b, BY x := fun x hx => form_u8 (hb.2.2 x hx)
  have hF : ∀ r ∈ l, ∀ x ∈ r, I64 x := fun r hr x hx => i64_wf ((hl.2.2 r hr).2.2 x hx)
  have hG : ∀ r ∈ m, ∀ x ∈ r, I64 x := fun r hr x hx => i64_wf ((hm.2.2 r hr).2.2 x hx)
  refine Ev.rounds (r := true) ?_
  unfold plexuslaw46_JournalForm.f
  refine Ev.bind exs46 (evJT rfl ?_)
  have hj0 : Ev (fun q => plexuslaw46_JournalForm.j0 q b l m true true) true := by
    refine Ev.step (fun q => by rw [plexuslaw46_JournalForm.j0]) ?_
    exact evJT rfl (Ev.now _)
  by_cases h2 : b.length ≤ 2000
  · refine evJF (by omega) ?_
    obtain ⟨c, hc1, hc2⟩ := small_f l
    refine Ev.bind hc1 ?_
    cases c with
    | false => exact evJF Bool.false_ne_true hj0
    | true =>
      obtain ⟨hnl, hsl⟩ := hc2 rfl
      have hfl : Fit l := fun r hr => ⟨by have := hsl r hr; omega, hF r hr⟩
      refine evJT rfl ?_
      obtain ⟨d, hd1, hd2⟩ := small_f m
      refine Ev.bind hd1 ?_
      cases d with
      | false => exact hj0
      | true =>
        obtain ⟨hnm, hsm⟩ := hd2 rfl
        have hfm : Fit m := fun r hr => ⟨by have := hsm r hr; omega, hG r hr⟩
        exact form_j0 b hB h2 l m hfl hfm hnl hnm hsl hsm
  · exact evJT (by omega) hj0
end Go.Proofs.Ytcanekmlabehgaa.Pure
