/- The law that the row states of plexus/plexuslaw46.JournalRefuses: for every input the answer is true. Under no condition. -/
import Derived.Test.YtcanekmlabehgaaP46x9
import Derived.Test.YtcanekmlabehgaaQJg
namespace Go.Proofs.Ytcanekmlabehgaa.Pure
set_option linter.unusedVariables false
set_option linter.unusedSimpArgs false
open Go.RowKit Go.Proofs.Ytcanekmlabehgaa.P46 Go.Proofs.YtcanekmlabehgaaW.PrintWords Go.Proofs.YtcanekmlabehgaaW.PrintLast Go.Proofs.YtcanekmlabehgaaW.PrintMore Go.Proofs.YtcanekmlabehgaaQ
theorem refuses_j1 (l : List (List Int)) (hf : Fit l) (hn : l.length ≤ 12) (hs : ∀ r ∈ l, r.length ≤ 12) (C : Nat) (hC : C < 65536) (r : List Int) :
    Ev (fun q => plexuslaw46_JournalRefuses.j1 q (C : Int) true (jn 0 l) r false) true := by
  have hz := jl_few l hs
  have hj := jn_len l 0
  refine Ev.step (fun q => by rw [plexuslaw46_JournalRefuses.j1]) ?_
  refine evJF Bool.false_ne_true ?_
  by_cases h0 : (jn 0 l).length = 0
  · exact evJT (by omega) (Ev.now _)
  refine evJF (by omega) ?_
  have hc := Nat.mod_lt C (show 23 > 0 by decide)
  have hl0 : l ≠ [] := fun e => h0 (by rw [e]; rfl)
  have hp : 0 < l.length := List.length_pos_iff.2 hl0
  have e1 : wrap64 (wrap64 (((jn 0 l).length : Int) - 1) - Int.tmod (wrap64 (C : Int)) 23) = ((jl l - 1 - C % 23 : Nat) : Int) := by
    have hk : 24 ≤ jl l := by
      cases l with
      | nil => exact absurd rfl hl0
      | cons a t => simp only [jl]; omega
    rw [w64 (x := (C : Int)) (by omega) (by omega), show (23 : Int) = ((23 : Nat) : Int) from rfl, tmod46, w64 (x := ((jn 0 l).length : Int) - 1) (by omega) (by omega), w64 (by omega) (by omega)]
    omega
  rw [e1]
  refine evJT (by omega) (evJT (by omega) ?_)
  rw [Int.toNat_natCast]
  by_cases hr : 64 < r.length
  · exact Ev.bind (Put_long hr) (evJT (by omega) (evJT rfl (Ev.now _)))
  · have hk : jl l = jl (l.take (l.length - 1)) + (8 * (l.getD (l.length - 1) []).length + 24) := by
      have h1 := take_succ46 (l := l) (i := l.length - 1) (by omega)
      rw [Nat.sub_add_cancel hp, List.take_length] at h1
      have h2 := congrArg jl h1
      rw [jl_app] at h2
      simpa [jl] using h2
    obtain ⟨t, ht, htl, htd, htb⟩ := jn_cut (l := l) hf (k := l.length - 1) (n := jl l - 1 - C % 23) (by omega) (by omega) (by omega) (fun _ => by rw [Nat.sub_add_cancel hp, List.take_length]; omega)
    have hjt := jn_len (l.take (l.length - 1)) 0
    rw [ht]
    have hT := Put_torn (r := r) (fit_take hf (l.length - 1)) htd htb (by rw [List.length_append]; omega) (fun e => by rw [e] at htl; simp at htl; omega) (by omega)
    exact Ev.bind hT (evJF (by omega) (evJT rfl (Ev.now _)))
theorem refuses_l0 (l : List (List Int)) (hf : Fit l) (hn : l.length ≤ 12) (hs : ∀ r ∈ l, r.length ≤ 12) (N : Nat) (hN : N < 256) (C : Nat) (hC : C < 65536) : ∀ (m : Nat) (r : List Int), N % 200 - r.length = m → r.length ≤ N % 200 →
    Ev (fun q => plexuslaw46_JournalRefuses.l0 q (N : Int) (C : Int) true (jn 0 l) r (r.length : Int)) true
  | 0, r, hm, hr => by
    have hz := jl_few l hs
    have hj := jn_len l 0
    have hlt := Nat.mod_lt N (show 200 > 0 by decide)
    have eN : wrap64 (Int.tmod (N : Int) 200) = ((N % 200 : Nat) : Int) := by rw [show (200 : Int) = ((200 : Nat) : Int) from rfl, tmod46, w64 (by omega) (by omega)]
    refine Ev.step (fun q => by rw [plexuslaw46_JournalRefuses.l0]) ?_
    refine evJF (by rw [eN]; omega) ?_
    by_cases h64 : r.length ≤ 64
    · refine Ev.bind (Put_jn hf h64 (by omega)) ?_
      refine evJF (by
        show ¬ ((((0 : Int) == 0) != decide ((r.length : Int) ≤ 64)) = true)
        rw [decide_eq_true (show (r.length : Int) ≤ 64 by omega)]
        simp) (evJT rfl ?_)
      have e : (((jn 0 (l ++ [r])).length : Int) != wrap64 (wrap64 (((jn 0 l).length : Int) + 24) + wrap64 (8 * (r.length : Int)))) = false := by
        rw [bne_eq_false_iff_eq, jn_len, jl_app, w64 (x := ((jn 0 l).length : Int) + 24) (by omega) (by omega), w64 (x := 8 * (r.length : Int)) (by omega) (by omega), w64 (by omega) (by omega)]
        simp only [jl]
        omega
      rw [e]
      exact refuses_j1 l hf hn hs C hC r
    · refine Ev.bind (Put_long (by omega)) ?_
      refine evJF (by
        show ¬ ((((1 : Int) == 0) != decide ((r.length : Int) ≤ 64)) = true)
        rw [decide_eq_false (show ¬ (r.length : Int) ≤ 64 by omega)]
        simp) (evJF (by show ¬ ((1 : Int) = 0); decide) (evJT rfl (evJF (by simp) ?_)))
      exact refuses_j1 l hf hn hs C hC r
  | m + 1, r, hm, hr => by
    have hlt := Nat.mod_lt N (show 200 > 0 by decide)
    have eN : wrap64 (Int.tmod (N : Int) 200) = ((N % 200 : Nat) : Int) := by rw [show (200 : Int) = ((200 : Nat) : Int) from rfl, tmod46, w64 (by omega) (by omega)]
    refine Ev.step (fun q => by rw [plexuslaw46_JournalRefuses.l0]) ?_
    refine evJT (by rw [eN]; omega) (evJT (by omega) ?_)
    rw [w64 (x := (r.length : Int) + 1) (by omega) (by omega)]
    have ih := refuses_l0 l hf hn hs N hN C hC m (r ++ [wrap64 (wrap64 ((r.length : Int) * (r.length : Int)) - 50)]) (by simp; omega) (by simp; omega)
    rw [show (((r ++ [wrap64 (wrap64 ((r.length : Int) * (r.length : Int)) - 50)]).length : Nat) : Int) = (r.length : Int) + 1 by simp] at ih
    exact ih
theorem JournalRefuses : plexuslaw46_JournalRefuses.Pure := by
  intro l a c hl ha hc
  obtain ⟨N, rfl, hN⟩ := u8_wf46 ha
  obtain ⟨C, rfl, hC⟩ := u16_wf46 hc
  have hF : ∀ r ∈ l, ∀ x ∈ r, I64 x := fun r hr x hx => i64_wf ((hl.2.2 r hr).2.2 x hx)
  refine Ev.rounds (r := true) ?_
  unfold plexuslaw46_JournalRefuses.f
  refine Ev.bind exs46 (evJT rfl ?_)
  obtain ⟨b, hb1, hb2⟩ := small_f l
  refine Ev.bind hb1 ?_
  cases b with
  | false => exact evJF Bool.false_ne_true (Ev.now _)
  | true =>
    obtain ⟨hn, hs⟩ := hb2 rfl
    have hf : Fit l := fun r hr => ⟨by have := hs r hr; omega, hF r hr⟩
    exact evJT rfl (Ev.bind (made_f hf (by omega) hs) (refuses_l0 l hf hn hs N hN C hC _ [] rfl (by simp)))
end Go.Proofs.Ytcanekmlabehgaa.Pure
