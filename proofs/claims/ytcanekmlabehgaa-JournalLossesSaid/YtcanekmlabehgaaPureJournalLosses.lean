/- The law that the row states of plexus/plexuslaw46.JournalLosses: for every input the answer is true. Under no condition. -/
import Derived.Test.YtcanekmlabehgaaX46L
import Derived.Test.YtcanekmlabehgaaQJg
import Derived.Test.YtcanekmlabehgaaQV
namespace Go.Proofs.Ytcanekmlabehgaa.P46
open Go.RowKit Go.Proofs.YtcanekmlabehgaaW.PrintWords
/-- THE ONE PURE STATEMENT of plexuslaw46_JournalLosses. -/
def plexuslaw46_JournalLosses.Pure : Prop := ∀ (l0 : List (List Int)) (a1 : Int), (l0.length * 24 ≤ 140737488351232 ∧ l0.length ≤ maxLen ∧ ∀ x_ ∈ l0, (x_.length * 8 ≤ 140737488351232 ∧ x_.length ≤ maxLen ∧ ∀ y_ ∈ x_, (Lit.int .i64 y_).wf = true)) → (Lit.int .u16 a1).wf = true → ∃ k, X46.plexuslaw46_JournalLosses.m k l0 a1 = some true
theorem plexuslaw46_JournalLosses.walk (P : plexuslaw46_JournalLosses.Pure) (w : World) (A0 : Option Addr) (c0 : Nat) (l0 : List (List Int)) (hr0 : Kd.C (Kd.slice 3 (Kd.int .i64)) w A0 l0.length l0) (hc0 : l0.length ≤ c0) (w0 : (l0.length * 24 ≤ 140737488351232 ∧ l0.length ≤ maxLen ∧ ∀ x_ ∈ l0, (x_.length * 8 ≤ 140737488351232 ∧ x_.length ≤ maxLen ∧ ∀ y_ ∈ x_, (Lit.int .i64 y_).wf = true))) (a1 : Int) (w1 : (Lit.int .u16 a1).wf = true) :
    Calls Try.prog 5 #[.slice A0 l0.length c0, .int .u16 a1] w fun e w' => e = .returned (.bool true) ∧ Below w.heap.size w w' := by
  obtain ⟨k, h⟩ := P l0 a1 w0 w1
  have hR : Vx.Rd w (fun b => b < w.heap.size) (.pair V46.kR (.int .u16)) (l0, a1) [.slice A0 l0.length c0, .int .u16 a1] :=
    ⟨[.slice A0 l0.length c0], [.int .u16 a1], rfl, Vx.Rd.of_kd (k := V46.kR) rfl ⟨A0, c0, rfl, hc0, hr0⟩, rfl⟩
  have e : X46.plexuslaw46_JournalLosses.sp k = ⟨[none, none], .pair V46.kR (.int .u16), [.im .bool], .one none, false, fun (x : List (List Int) × Int) => X46.plexuslaw46_JournalLosses.m k x.1 x.2⟩ := by kernel_rfl
  have q := @Vx.Good.law Try.prog 5 (X46.plexuslaw46_JournalLosses.sp k) [none, none] (.pair V46.kR (.int .u16)) false (fun (x : List (List Int) × Int) => X46.plexuslaw46_JournalLosses.m k x.1 x.2) (X46.plexuslaw46_JournalLosses.good k) e (l0, a1)
  have q2 := q h (w := w) (cells := [.slice A0 l0.length c0, .int .u16 a1])
  have q3 := q2 hR
  exact q3
end Go.Proofs.Ytcanekmlabehgaa.P46
namespace Go.Proofs.Ytcanekmlabehgaa.Pure
set_option linter.unusedVariables false
set_option linter.unusedSimpArgs false
open Go.RowKit Go.Proofs.Ytcanekmlabehgaa.P46 Go.Proofs.YtcanekmlabehgaaW.PrintWords Go.Proofs.YtcanekmlabehgaaW.PrintLast Go.Proofs.YtcanekmlabehgaaW.PrintMore Go.Proofs.YtcanekmlabehgaaQ
theorem losses_j0 (l : List (List Int)) (hf : Fit l) (hn : l.length ≤ 12) (hs : ∀ r ∈ l, r.length ≤ 12) (a1 : Int) (n k : Nat) (hnn : Go.Vx.divF BinOp.rem IntKind.i64 (IntKind.wrap IntKind.i64 a1) (IntKind.wrap IntKind.i64 (((jn 0 l).length : Int) + 1)) = (n : Int)) (hk : k ≤ l.length) (h0 : jl (l.take k) ≤ n) (hle : n ≤ jl l) (h1 : k < l.length → n < jl (l.take (k + 1))) :
    Ev (fun q => X46.plexuslaw46_JournalLosses.j0 q l a1 true (jn 0 l, ends l l.length) (k : Int) ((jl (l.take k) : Nat) : Int)) true := by
  have hz := jl_few l hs
  obtain ⟨t, ht, htl, htd, htb⟩ := jn_cut hf hk h0 hle h1
  have hjl := jn_len l 0
  have hjt := jn_len (l.take k) 0
  have hft := fit_take hf k
  have hsz : (jn 0 (l.take k) ++ t).length ≤ 100000 := by rw [List.length_append]; omega
  have hA := read_jn hft htd htb hsz
  have hB := whole_jn hft htd htb hsz
  have hR : Ev (fun q => plexusref46_Records.f q (l.take k) (l.take k)) true := recs_f (by rw [List.length_take]; omega) (fun r hr => by have := hs r (List.mem_of_mem_take hr); omega)
  have e2 : (jn 0 (l.take k) ++ t).drop (jl (l.take k)) = t := by rw [← hjt]; exact List.drop_left
  have e3 : (jn 0 l).take (jl (l.take k)) = jn 0 (l.take k) := by rw [jn_split l k, ← hjt]; exact List.take_left
  have e4 : ((jn 0 l).drop (jl (l.take k))).take (n - jl (l.take k)) = t := by rw [← e2, ← ht, List.drop_take]
  refine Ev.congr (fun q => X46.plexuslaw46_JournalLosses.j0_eq q l a1 true _ _ _) ?_
  simp only [hnn, Int.toNat_natCast]
  refine evJT (by omega) (evJT (by omega) ?_)
  rw [ht, e3, e4]
  refine Ev.bind hA ?_
  by_cases hn0 : t = []
  · have hnk : n = jl (l.take k) := by rw [hn0] at htl; simp at htl; omega
    rw [if_pos hn0]
    refine evJT (by rw [hnk]; simp) (evJT rfl ?_)
    refine evJT (by omega) (evJT (by omega) (Ev.bind hR (evJT rfl (evJT (by omega) (evJT (by omega) (evJT (by omega) ?_))))))
    refine Ev.bind (sev46 _) (evJT rfl (evJT (by omega) (evJT (by omega) ?_)))
    refine Ev.bind hB (evJT (by omega) (evJT (by omega) ?_))
    exact Ev.bind (sev46 _) (evJT rfl (Ev.now _))
  · have hnk : n ≠ jl (l.take k) := fun e => hn0 (List.eq_nil_of_length_eq_zero (by omega))
    rw [if_neg hn0]
    refine evJT (by
      show (((460 : Int) == 0) == ((n : Int) == ((jl (l.take k) : Nat) : Int))) = true
      rw [beq_eq_false_iff_ne.2 (show (460 : Int) ≠ 0 by decide), beq_eq_false_iff_ne.2 (show (n : Int) ≠ ((jl (l.take k) : Nat) : Int) by omega)]
      rfl) (evJF (by show ¬ (((460 : Int) == 0) = true); decide) (evJT rfl ?_))
    refine evJT (by omega) (evJT (by omega) (Ev.bind hR (evJT rfl (evJT (by omega) (evJT (by omega) (evJT (by omega) ?_))))))
    refine Ev.bind (sev46 _) (evJT rfl (evJT (by omega) (evJT (by omega) ?_)))
    refine Ev.bind hB (evJT (by omega) (evJT (by omega) ?_))
    exact Ev.bind (sev46 _) (evJT rfl (Ev.now _))
theorem losses_l0 (l : List (List Int)) (hf : Fit l) (hn : l.length ≤ 12) (hs : ∀ r ∈ l, r.length ≤ 12) (a1 : Int) (n : Nat) (hnn : Go.Vx.divF BinOp.rem IntKind.i64 (IntKind.wrap IntKind.i64 a1) (IntKind.wrap IntKind.i64 (((jn 0 l).length : Int) + 1)) = (n : Int)) (hle : n ≤ jl l) : ∀ (m k : Nat), l.length - k = m → k ≤ l.length → jl (l.take k) ≤ n →
    Ev2 (fun p q => X46.plexuslaw46_JournalLosses.l0 p q l a1 true (jn 0 l, ends l l.length) (k : Int) ((jl (l.take k) : Nat) : Int)) true
  | 0, k, hm, hk, h0 => by
    refine Ev2.step (fun p q => X46.plexuslaw46_JournalLosses.l0_succ p q l a1 true _ _ _) ?_
    exact ev2F (dF (by rw [ends_len]; omega)) (Ev2.of (losses_j0 l hf hn hs a1 n k hnn hk h0 hle (fun h => by omega)))
  | m + 1, k, hm, hk, h0 => by
    have hlt : k < l.length := by omega
    refine Ev2.step (fun p q => X46.plexuslaw46_JournalLosses.l0_succ p q l a1 true _ _ _) ?_
    refine ev2T (dT (by rw [ends_len]; omega)) (ev2T (by omega) (ev2T (by rw [ends_len]; omega) ?_))
    have hr : List.getD (ends l l.length) (Int.toNat (k : Int)) (Int.ofNat 0) = ((jl (l.take (k + 1)) : Nat) : Int) := ends_at l hlt
    simp only [hr, hnn]
    by_cases h1 : jl (l.take (k + 1)) ≤ n
    · refine ev2T (dT (by omega)) (ev2T (by omega) (ev2T (by rw [ends_len]; omega) ?_))
      rw [wrap_i64', w64 (x := (k : Int) + 1) (by omega) (by omega), show (k : Int) + 1 = ((k + 1 : Nat) : Int) by omega]
      exact losses_l0 l hf hn hs a1 n hnn hle m (k + 1) (by omega) (by omega) h1
    · exact ev2F (dF (by omega)) (Ev2.of (losses_j0 l hf hn hs a1 n k hnn hk h0 hle (fun _ => by omega)))
theorem JournalLosses : plexuslaw46_JournalLosses.Pure := by
  intro l c hl hc
  obtain ⟨C, rfl, hC⟩ := u16_wf46 hc
  have hF : ∀ r ∈ l, ∀ x ∈ r, I64 x := fun r hr x hx => i64_wf ((hl.2.2 r hr).2.2 x hx)
  refine Ev.rounds (r := true) ?_
  refine Ev.congr (fun q => X46.plexuslaw46_JournalLosses.m_eq q l (C : Int)) ?_
  refine Ev.bind exs46 (evJF (notF rfl) ?_)
  obtain ⟨b, hb1, hb2⟩ := small_f l
  refine Ev.bind hb1 ?_
  cases b with
  | false => exact evJT rfl (Ev.now _)
  | true =>
    obtain ⟨hn, hs⟩ := hb2 rfl
    have hf : Fit l := fun r hr => ⟨by have := hs r hr; omega, hF r hr⟩
    have hz := jl_few l hs
    have hj := jn_len l 0
    refine evJF (notF rfl) (Ev.bind (made_f hf (by omega) hs) ?_)
    have e1 : IntKind.wrap IntKind.i64 (((jn 0 l).length : Int) + 1) = ((jl l + 1 : Nat) : Int) := by rw [wrap_i64', w64 (by omega) (by omega)]; omega
    refine evJF (by rw [e1]; omega) ?_
    have hlt := Nat.mod_lt C (show jl l + 1 > 0 by omega)
    have hnn : Go.Vx.divF BinOp.rem IntKind.i64 (IntKind.wrap IntKind.i64 (C : Int)) (IntKind.wrap IntKind.i64 (((jn 0 l).length : Int) + 1)) = ((C % (jl l + 1) : Nat) : Int) := by
      rw [e1, wrap_i64', w64 (x := (C : Int)) (by omega) (by omega), rem_tmod, tmod46]
    exact (losses_l0 l hf hn hs (C : Int) (C % (jl l + 1)) hnn (by omega) l.length 0 rfl (by omega) (by simp [jl])).diag
end Go.Proofs.Ytcanekmlabehgaa.Pure
