/- Journals, the other way round: what was read is what the bytes are the journal of; lists of bytes and of records that are compared. -/
import Derived.Test.YtcanekmlabehgaaQJg
namespace Go.Proofs.YtcanekmlabehgaaQ
set_option linter.unusedVariables false
set_option linter.unusedSimpArgs false
open Go.RowKit Go.Proofs.Ytcanekmlabehgaa.P46 Go.Proofs.YtcanekmlabehgaaW.PrintWords Go.Proofs.YtcanekmlabehgaaW.PrintLast Go.Proofs.YtcanekmlabehgaaW.PrintMore
theorem wrap64_I (x : Int) : I64 (wrap64 x) := by unfold I64 wrap64; omega
theorem nums_I : ∀ (n : Nat) (j : List Int), ∀ x ∈ nums n j, I64 x
  | 0, j, x, hx => by simp [nums] at hx
  | n + 1, j, x, hx => by
    simp only [nums, List.mem_cons] at hx
    rcases hx with rfl | h
    · exact wrap64_I _
    · exact nums_I n _ x h
theorem u64_wrap {v : Nat} (h : v < 2 ^ 64) : u64 (wrap64 (v : Int)) = v := by unfold u64 wrap64; omega
theorem chunk {j : List Int} (hj : 8 ≤ j.length) (hb : ∀ x ∈ j, BY x) : wb (bw (j.take 8)) = j.take 8 ∧ bw (j.take 8) < 2 ^ 64 := by
  have hl : (j.take 8).length = 8 := by rw [List.length_take]; omega
  refine ⟨wb_bw hl (take_by hb 8), ?_⟩
  have := bw_lt (j.take 8) (take_by hb 8)
  rw [hl] at this
  exact this
theorem nums_take : ∀ (n : Nat) (j : List Int), 8 * n ≤ j.length → (∀ x ∈ j, BY x) → wbs ((nums n j).map u64) = j.take (8 * n)
  | 0, j, hj, hb => by simp [nums, wbs]
  | n + 1, j, hj, hb => by
    obtain ⟨h1, h2⟩ := chunk (j := j) (by omega) hb
    simp only [nums, List.map_cons]
    rw [wbs_cons, u64_wrap h2, h1, nums_take n (j.drop 8) (by rw [List.length_drop]; omega) (drop_by hb 8)]
    rw [show 8 * (n + 1) = 8 + 8 * n by omega, List.take_add]
theorem enc_dec {key : Nat} {j r : List Int} {m : Nat} {t : List Int} (hb : ∀ x ∈ j, BY x) (h : dec key j = some (r, m, t)) : j = enc key r ++ t ∧ m = tagN key r ∧ r.length ≤ 64 ∧ (∀ x ∈ r, I64 x) ∧ ∀ x ∈ t, BY x := by
  unfold dec at h
  split at h
  · exact absurd h (by simp)
  split at h
  · exact absurd h (by simp)
  split at h
  · exact absurd h (by simp)
  split at h
  · exact absurd h (by simp)
  rename_i h1 h2 h3 h4
  split at h
  · rename_i h5
    simp only [Option.some.injEq, Prod.mk.injEq] at h
    obtain ⟨rfl, rfl, rfl⟩ := h
    have h3' : bw ((j.drop 8).take 8) = wordsN [wrap64 ((bw (j.take 8) : Nat) : Int)] := Classical.byContradiction fun e => h3 e
    clear h3
    obtain ⟨c1, c2⟩ := chunk (j := j) (by omega) hb
    have hN : ∃ N : Nat, wrap64 ((bw (j.take 8) : Nat) : Int) = N ∧ N ≤ 64 ∧ bw (j.take 8) = N := by
      generalize bw (j.take 8) = v at *
      refine ⟨(wrap64 (v : Int)).toNat, by omega, by omega, ?_⟩
      unfold wrap64 at *
      omega
    obtain ⟨N, e1, e2, e3⟩ := hN
    rw [e1] at h3' h4 h5 ⊢
    rw [Int.toNat_natCast] at h4 h5 ⊢
    rw [e3] at c1
    have hb8 := drop_by hb 8
    have hb16 := drop_by hb 16
    obtain ⟨c3, c4⟩ := chunk (j := j.drop 8) (by rw [List.length_drop]; omega) hb8
    rw [h3'] at c3
    have c5 := nums_take N (j.drop 16) (by omega) hb16
    obtain ⟨c6, c7⟩ := chunk (j := (j.drop 16).drop (8 * N)) (by rw [List.length_drop]; omega) (drop_by hb16 _)
    rw [h5] at c6
    refine ⟨?_, rfl, by rw [nums_len]; exact e2, nums_I _ _, drop_by hb16 _⟩
    unfold enc
    rw [nums_len, wbs_cons, wbs_one, wbs_one, c1, c3, c5, c6, ← List.drop_drop]
    rw [List.append_assoc, List.append_assoc, List.append_assoc, List.take_append_drop, List.take_append_drop]
    rw [show j.drop 16 = (j.drop 8).drop 8 by rw [List.drop_drop], List.take_append_drop, List.take_append_drop]
  · exact absurd h (by simp)
/-- What the walk finds is what the bytes are the journal of. -/
theorem par_all : ∀ (n key : Nat) (j : List Int), (∀ x ∈ j, BY x) → j.length < n → j = jn key (par n key j).1 ++ (par n key j).2 ∧ Fit (par n key j).1 ∧ dec (lk key (par n key j).1) (par n key j).2 = none ∧ ∀ x ∈ (par n key j).2, BY x := by
  intro n
  induction n with
  | zero => intro key j hb hn; omega
  | succ n ih =>
    intro key j hb hn
    cases hd : dec key j with
    | none =>
      rw [par_none hd]
      exact ⟨rfl, fun r hr => by simp at hr, hd, hb⟩
    | some p =>
      obtain ⟨r, m, t⟩ := p
      have hl := (dec_len hd).1
      obtain ⟨e1, rfl, e3, e4, e5⟩ := enc_dec hb hd
      obtain ⟨i1, i2, i3, i4⟩ := ih (tagN key r) t e5 (by omega)
      rw [par_some hd]
      refine ⟨?_, ?_, i3, i4⟩
      · show j = (enc key r ++ jn (tagN key r) (par n (tagN key r) t).1) ++ (par n (tagN key r) t).2
        rw [List.append_assoc, ← i1]
        exact e1
      · intro x hx
        rcases List.mem_cons.1 hx with rfl | h
        · exact ⟨e3, e4⟩
        · exact i2 x h
theorem jn_inj {l m : List (List Int)} (hl : Fit l) (hm : Fit m) (h : jn 0 l = jn 0 m) : l = m := by
  have h1 := par_jn l (l.length + m.length) 0 [] (by omega) hl (dec_nil _)
  have h2 := par_jn m (l.length + m.length) 0 [] (by omega) hm (dec_nil _)
  rw [h, h2] at h1
  exact (Prod.mk.inj h1).1.symm
/-- A journal of any records that fit. -/
theorem made_l0g (l : List (List Int)) (hf : Fit l) (hz : jl l ≤ 60000) : ∀ (m i : Nat), l.length - i = m → i ≤ l.length → Ev (fun k => plexuslaw46_made.l0 k l (jn 0 (l.take i)) (ends l i) (i : Int)) (jn 0 l, ends l l.length)
  | 0, i, hm, hi => by
    obtain rfl : i = l.length := by omega
    refine Ev.step (fun k => by rw [plexuslaw46_made.l0]) ?_
    rw [List.take_length]
    exact evJF (by omega) (Ev.now _)
  | m + 1, i, hm, hi => by
    have hg := jn_ge l 0
    rw [jn_len] at hg
    refine Ev.step (fun k => by rw [plexuslaw46_made.l0]) ?_
    have hlt : i < l.length := by omega
    refine evJT (by omega) (evJT (by omega) ?_)
    rw [rdL_nat]
    have hr := hf _ (getD_mem (d := []) hlt)
    have h1 := jl_take l (i + 1)
    have h2 : jl (l.take (i + 1)) = jl (l.take i) + (8 * (l.getD i []).length + 24) := by
      rw [take_succ46 hlt, jl_app]; simp only [jl]
    have hp := put_jn (l := l.take i) (r := l.getD i []) (fit_take hf i) hr.1 (by rw [jn_len]; omega)
    rw [← take_succ46 hlt] at hp
    refine Ev.bind hp (evJT (by rw [ends_len]; omega) ?_)
    rw [jn_len, ← ends_succ, w64 (x := (i : Int) + 1) (by omega) (by omega), show (i : Int) + 1 = ((i + 1 : Nat) : Int) by omega]
    exact made_l0g l hf hz m (i + 1) (by omega) (by omega)
theorem made_g {l : List (List Int)} (hf : Fit l) (hz : jl l ≤ 60000) : Ev (fun k => plexuslaw46_made.f k l) (jn 0 l, ends l l.length) := by
  unfold plexuslaw46_made.f
  exact made_l0g l hf hz l.length 0 rfl (by omega)
end Go.Proofs.YtcanekmlabehgaaQ
