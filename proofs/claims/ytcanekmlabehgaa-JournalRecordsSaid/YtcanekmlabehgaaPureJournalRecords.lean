/- The law that the row states of plexus/plexuslaw46.JournalRecords: for every input the answer is true. Under no condition. -/
import Derived.Test.YtcanekmlabehgaaP46x5
import Derived.Test.YtcanekmlabehgaaQJf
namespace Go.Proofs.Ytcanekmlabehgaa.Pure
set_option linter.unusedVariables false
set_option linter.unusedSimpArgs false
open Go.RowKit Go.Proofs.Ytcanekmlabehgaa.P46 Go.Proofs.YtcanekmlabehgaaW.PrintWords Go.Proofs.YtcanekmlabehgaaW.PrintLast Go.Proofs.YtcanekmlabehgaaW.PrintMore Go.Proofs.YtcanekmlabehgaaQ
theorem records_l0 (l : List (List Int)) (hf : Fit l) (hn : l.length ≤ 12) (hs : ∀ r ∈ l, r.length ≤ 12) : ∀ (m i : Nat), l.length - i = m → i ≤ l.length → Ev (fun k => plexuslaw46_JournalRecords.l0 k l true (jn 0 l) (ends l l.length) ((jl (l.take i) : Nat) : Int) (i : Int)) true
  | 0, i, hm, hi => by
    have hz := jl_few l hs
    have hj := jn_len l 0
    refine Ev.step (fun k => by rw [plexuslaw46_JournalRecords.l0]) ?_
    refine evJF (by omega) ?_
    have h1 := read_jn (t := []) hf (dec_nil _) (by simp) (by rw [List.append_nil]; omega)
    have h2 := whole_jn (t := []) hf (dec_nil _) (by simp) (by rw [List.append_nil]; omega)
    rw [List.append_nil, if_pos rfl] at h1
    rw [List.append_nil] at h2
    refine Ev.bind h1 (evJT rfl (evJT rfl ?_))
    refine Ev.bind (recs_f (l := l) (by omega) (fun r hr => by have := hs r hr; omega)) (evJT rfl ?_)
    refine Ev.bind h2 ?_
    exact Ev.bind (sev46 _) (evJT rfl (Ev.now _))
  | m + 1, i, hm, hi => by
    have hlt : i < l.length := by omega
    have hz := jl_few (l.take i) (fun r hr => hs r (List.mem_of_mem_take hr))
    rw [List.length_take] at hz
    have hr := hs _ (getD_mem (d := []) hlt)
    have e : jl (l.take (i + 1)) = jl (l.take i) + (24 + 8 * (l.getD i []).length) := by
      rw [take_succ46 hlt, jl_app]
      simp only [jl]
      omega
    have ew : wrap64 (((jl (l.take i) : Nat) : Int) + wrap64 (24 + wrap64 (8 * ((rd_L3 l (i : Int)).length : Int)))) = ((jl (l.take (i + 1)) : Nat) : Int) := by
      rw [rdL_nat, w64 (x := 8 * ((l.getD i []).length : Int)) (by omega) (by omega), w64 (x := 24 + 8 * ((l.getD i []).length : Int)) (by omega) (by omega), w64 (by omega) (by omega)]
      omega
    refine Ev.step (fun k => by rw [plexuslaw46_JournalRecords.l0]) ?_
    refine evJT (by omega) (evJT (by omega) (evJT (by rw [ends_len]; omega) ?_))
    rw [ew]
    refine evJT (ends_at l hlt) ?_
    rw [w64 (x := (i : Int) + 1) (by omega) (by omega), show (i : Int) + 1 = ((i + 1 : Nat) : Int) by omega]
    exact records_l0 l hf hn hs m (i + 1) (by omega) (by omega)
theorem JournalRecords : plexuslaw46_JournalRecords.Pure := by
  intro l hl
  have hF : ∀ r ∈ l, ∀ x ∈ r, I64 x := fun r hr x hx => i64_wf ((hl.2.2 r hr).2.2 x hx)
  refine Ev.rounds (r := true) ?_
  unfold plexuslaw46_JournalRecords.f
  refine Ev.bind exs46 (evJT rfl ?_)
  obtain ⟨b, hb1, hb2⟩ := small_f l
  refine Ev.bind hb1 ?_
  cases b with
  | false => exact evJF Bool.false_ne_true (Ev.now _)
  | true =>
    obtain ⟨hn, hs⟩ := hb2 rfl
    have hf : Fit l := fun r hr => ⟨by have := hs r hr; omega, hF r hr⟩
    exact evJT rfl (Ev.bind (made_f hf (by omega) hs) (records_l0 l hf hn hs _ 0 rfl (by omega)))
end Go.Proofs.Ytcanekmlabehgaa.Pure
