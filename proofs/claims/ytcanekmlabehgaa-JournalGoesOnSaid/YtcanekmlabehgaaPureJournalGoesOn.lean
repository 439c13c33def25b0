/- The law that the row states of plexus/plexuslaw46.JournalGoesOn: for every input the answer is true. Under no condition. -/
import Derived.Test.YtcanekmlabehgaaP46x7
import Derived.Test.YtcanekmlabehgaaQJg
namespace Go.Proofs.Ytcanekmlabehgaa.Pure
set_option linter.unusedVariables false
set_option linter.unusedSimpArgs false
open Go.RowKit Go.Proofs.Ytcanekmlabehgaa.P46 Go.Proofs.YtcanekmlabehgaaW.PrintWords Go.Proofs.YtcanekmlabehgaaW.PrintLast Go.Proofs.YtcanekmlabehgaaW.PrintMore Go.Proofs.YtcanekmlabehgaaQ
theorem fit_app {l m : List (List Int)} (hl : Fit l) (hm : Fit m) : Fit (l ++ m) := fun r hr => (List.mem_append.1 hr).elim (hl r) (hm r)
theorem goes_l1 (l more : List (List Int)) (hfl : Fit l) (hfm : Fit more) (hnl : l.length ≤ 12) (hnm : more.length ≤ 12) (hsl : ∀ r ∈ l, r.length ≤ 12) (hsm : ∀ r ∈ more, r.length ≤ 12) (k : Nat) (hk : k ≤ l.length) : ∀ (m i : Nat), more.length - i = m → i ≤ more.length →
    Ev (fun q => plexuslaw46_JournalGoesOn.l1 q l more true (k : Int) (jn 0 (l.take k ++ more.take i)) (i : Int)) true
  | 0, i, hm, hi => by
    obtain rfl : i = more.length := by omega
    have hft := fit_app (fit_take hfl k) hfm
    have hst : ∀ r ∈ l.take k ++ more, r.length ≤ 12 := fun r hr => (List.mem_append.1 hr).elim (fun h => hsl r (List.mem_of_mem_take h)) (hsm r)
    have hlt : (l.take k ++ more).length ≤ 24 := by rw [List.length_append, List.length_take]; omega
    have hz := jl_few _ hst
    have hj := jn_len (l.take k ++ more) 0
    refine Ev.step (fun q => by rw [plexuslaw46_JournalGoesOn.l1]) ?_
    rw [List.take_length]
    refine evJF (by omega) ?_
    have hM := made_f hft (by omega) hst
    have hA := read_jn (t := []) hft (dec_nil _) (by simp) (by rw [List.append_nil]; omega)
    rw [List.append_nil, if_pos rfl] at hA
    have hkl : (l.take k).length ≤ 12 := by rw [List.length_take]; omega
    rw [Int.toNat_natCast]
    refine Ev.bind (Ev.now _) (evJT (by omega) (evJT (by omega) (Ev.bind (Ev.now _) (evJT (by rw [List.length_nil]; omega) (Ev.bind (Ev.now _) (evJT (by rw [List.nil_append]; omega) ?_))))))
    rw [List.nil_append]
    refine Ev.bind hM (Ev.bind (sev46 _) (evJT rfl ?_))
    refine Ev.bind hA ?_
    refine Ev.bind (Ev.now _) (Ev.bind (Ev.now _) (evJT (by rw [List.length_nil]; omega) (Ev.bind (Ev.now _) (evJT (by rw [List.nil_append]; omega) ?_))))
    rw [List.nil_append]
    exact Ev.bind (recs_f (l := l.take k ++ more) (by omega) (fun r hr => by have := hst r hr; omega)) (evJT rfl (Ev.now _))
  | m + 1, i, hm, hi => by
    have hlt : i < more.length := by omega
    have hft : Fit (l.take k ++ more.take i) := fit_app (fit_take hfl k) (fit_take hfm i)
    have hst : ∀ r ∈ l.take k ++ more.take i, r.length ≤ 12 := fun r hr => (List.mem_append.1 hr).elim (fun h => hsl r (List.mem_of_mem_take h)) (fun h => hsm r (List.mem_of_mem_take h))
    have hln : (l.take k ++ more.take i).length ≤ 24 := by rw [List.length_append, List.length_take, List.length_take]; omega
    have hz := jl_few _ hst
    have hr := hsm _ (getD_mem (d := []) hlt)
    refine Ev.step (fun q => by rw [plexuslaw46_JournalGoesOn.l1]) ?_
    refine evJT (by omega) (evJT (by omega) ?_)
    rw [rdL_nat]
    have hp := put_jn (r := more.getD i []) hft (by omega) (by rw [jn_len]; omega)
    rw [List.append_assoc, ← take_succ46 hlt] at hp
    refine Ev.bind hp ?_
    rw [w64 (x := (i : Int) + 1) (by omega) (by omega), show (i : Int) + 1 = ((i + 1 : Nat) : Int) by omega]
    exact goes_l1 l more hfl hfm hnl hnm hsl hsm k hk m (i + 1) (by omega) (by omega)
theorem goes_j2 (l more : List (List Int)) (hfl : Fit l) (hfm : Fit more) (hnl : l.length ≤ 12) (hnm : more.length ≤ 12) (hsl : ∀ r ∈ l, r.length ≤ 12) (hsm : ∀ r ∈ more, r.length ≤ 12) (n k : Nat) (hk : k ≤ l.length) (h0 : jl (l.take k) ≤ n) (hle : n ≤ jl l) (h1 : k < l.length → n < jl (l.take (k + 1))) :
    Ev (fun q => plexuslaw46_JournalGoesOn.j2 q l more true (jn 0 l) (n : Int) (k : Int)) true := by
  have hz := jl_few l hsl
  obtain ⟨t, ht, htl, htd, htb⟩ := jn_cut hfl hk h0 hle h1
  have hjl := jn_len l 0
  have hjt := jn_len (l.take k) 0
  have hB := whole_jn (fit_take hfl k) htd htb (by rw [List.length_append]; omega)
  refine Ev.step (fun q => by rw [plexuslaw46_JournalGoesOn.j2]) ?_
  refine evJT (by omega) (evJT (by omega) ?_)
  rw [Int.toNat_natCast, ht]
  refine Ev.bind hB ?_
  have h := goes_l1 l more hfl hfm hnl hnm hsl hsm k hk more.length 0 rfl (by omega)
  rw [List.take_zero, List.append_nil] at h
  exact h
theorem goes_l0 (l more : List (List Int)) (hfl : Fit l) (hfm : Fit more) (hnl : l.length ≤ 12) (hnm : more.length ≤ 12) (hsl : ∀ r ∈ l, r.length ≤ 12) (hsm : ∀ r ∈ more, r.length ≤ 12) (n : Nat) (hle : n ≤ jl l) : ∀ (m k : Nat), l.length - k = m → k ≤ l.length → jl (l.take k) ≤ n →
    Ev (fun q => plexuslaw46_JournalGoesOn.l0 q l more true (jn 0 l) (ends l l.length) (n : Int) (k : Int)) true
  | 0, k, hm, hk, h0 => by
    refine Ev.step (fun q => by rw [plexuslaw46_JournalGoesOn.l0]) ?_
    exact evJF (by rw [ends_len]; omega) (goes_j2 l more hfl hfm hnl hnm hsl hsm n k hk h0 hle (fun h => by omega))
  | m + 1, k, hm, hk, h0 => by
    have hlt : k < l.length := by omega
    refine Ev.step (fun q => by rw [plexuslaw46_JournalGoesOn.l0]) ?_
    refine evJT (by rw [ends_len]; omega) (evJT (by omega) ?_)
    rw [ends_at l hlt]
    by_cases h1 : jl (l.take (k + 1)) ≤ n
    · refine evJT (by omega) ?_
      rw [w64 (x := (k : Int) + 1) (by omega) (by omega), show (k : Int) + 1 = ((k + 1 : Nat) : Int) by omega]
      exact goes_l0 l more hfl hfm hnl hnm hsl hsm n hle m (k + 1) (by omega) (by omega) h1
    · exact evJF (by omega) (goes_j2 l more hfl hfm hnl hnm hsl hsm n k hk h0 hle (fun _ => by omega))
theorem JournalGoesOn : plexuslaw46_JournalGoesOn.Pure := by
  intro l more c hl hm hc
  obtain ⟨C, rfl, hC⟩ := u16_wf46 hc
  have hF : ∀ r ∈ l, ∀ x ∈ r, I64 x := fun r hr x hx => i64_wf ((hl.2.2 r hr).2.2 x hx)
  have hG : ∀ r ∈ more, ∀ x ∈ r, I64 x := fun r hr x hx => i64_wf ((hm.2.2 r hr).2.2 x hx)
  refine Ev.rounds (r := true) ?_
  unfold plexuslaw46_JournalGoesOn.f
  refine Ev.bind exs46 (evJT rfl ?_)
  have hj0 : Ev (fun q => plexuslaw46_JournalGoesOn.j0 q l more (C : Int) true true) true := by
    refine Ev.step (fun q => by rw [plexuslaw46_JournalGoesOn.j0]) ?_
    exact evJT rfl (Ev.now _)
  obtain ⟨b, hb1, hb2⟩ := small_f l
  refine Ev.bind hb1 ?_
  cases b with
  | false => exact evJF Bool.false_ne_true hj0
  | true =>
    obtain ⟨hnl, hsl⟩ := hb2 rfl
    have hfl : Fit l := fun r hr => ⟨by have := hsl r hr; omega, hF r hr⟩
    refine evJT rfl ?_
    obtain ⟨d, hd1, hd2⟩ := small_f more
    refine Ev.bind hd1 ?_
    cases d with
    | false => exact hj0
    | true =>
      obtain ⟨hnm, hsm⟩ := hd2 rfl
      have hfm : Fit more := fun r hr => ⟨by have := hsm r hr; omega, hG r hr⟩
      have hz := jl_few l hsl
      have hj := jn_len l 0
      refine Ev.step (fun q => by rw [plexuslaw46_JournalGoesOn.j0]) ?_
      refine evJF (by simp) (Ev.bind (made_f hfl (by omega) hsl) ?_)
      have e1 : wrap64 (((jn 0 l).length : Int) + 1) = ((jl l + 1 : Nat) : Int) := by rw [w64 (by omega) (by omega)]; omega
      refine evJF (by rw [e1]; omega) ?_
      rw [e1, w64 (x := (C : Int)) (by omega) (by omega), tmod46]
      have hlt := Nat.mod_lt C (show jl l + 1 > 0 by omega)
      exact goes_l0 l more hfl hfm hnl hnm hsl hsm (C % (jl l + 1)) (by omega) l.length 0 rfl (by omega) (by simp [jl])
end Go.Proofs.Ytcanekmlabehgaa.Pure
