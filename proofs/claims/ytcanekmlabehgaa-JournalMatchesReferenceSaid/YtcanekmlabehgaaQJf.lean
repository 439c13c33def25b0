/- Journals: small records, journals that are made, and lists of records that are compared. -/
import Derived.Test.YtcanekmlabehgaaQJe
import Derived.Test.YtcanekmlabehgaaP46x5
import Derived.KernelRfl
namespace Go.Proofs.YtcanekmlabehgaaQ
set_option linter.unusedVariables false
set_option linter.unusedSimpArgs false
open Go.RowKit Go.Proofs.Ytcanekmlabehgaa.P46 Go.Proofs.YtcanekmlabehgaaW.PrintWords Go.Proofs.YtcanekmlabehgaaW.PrintLast Go.Proofs.YtcanekmlabehgaaW.PrintMore
theorem exs46 : Ev (fun k => plexuslaw46_examples.f k) true := Ev.of (fun k => plexuslaw46_examples.mono k) (show plexuslaw46_examples.f 100 = some true by kernel_rfl)
theorem i64_wf {a : Int} (h : (Lit.int .i64 a).wf = true) : I64 a := by
  simp [Lit.wf, IntKind.min, IntKind.max, IntKind.signed, IntKind.bits] at h
  exact ⟨by omega, by omega⟩
theorem u16_wf46 {a : Int} (h : (Lit.int .u16 a).wf = true) : ∃ n : Nat, a = n ∧ n < 65536 := by
  simp [Lit.wf, IntKind.min, IntKind.max, IntKind.signed, IntKind.bits] at h
  exact ⟨a.toNat, by omega, by omega⟩
theorem u8_wf46 {a : Int} (h : (Lit.int .u8 a).wf = true) : ∃ n : Nat, a = n ∧ n < 256 := by
  simp [Lit.wf, IntKind.min, IntKind.max, IntKind.signed, IntKind.bits] at h
  exact ⟨a.toNat, by omega, by omega⟩
theorem tmod46 (a b : Nat) : Int.tmod (a : Int) (b : Int) = ((a % b : Nat) : Int) := by rw [Int.tmod_eq_emod_of_nonneg (by omega)]; omega
theorem rdL_nat (l : List (List Int)) (i : Nat) : rd_L3 l (i : Int) = l.getD i [] := by simp [rd_L3]
theorem rd_nat46 (l : List Int) (i : Nat) : rd l (i : Int) = l.getD i 0 := by simp [rd]
theorem getD_mem {α : Type} {l : List α} {i : Nat} {d : α} (h : i < l.length) : l.getD i d ∈ l := by
  rw [show l.getD i d = l[i] by simp [List.getD, h]]
  exact List.getElem_mem h
/-- Few short records. -/
def Few (l : List (List Int)) : Prop := l.length ≤ 12 ∧ ∀ r ∈ l, r.length ≤ 12
theorem small_l0 (l : List (List Int)) (hl : l.length ≤ 12) : ∀ (m i : Nat), l.length - i = m → (∀ j, j < i → (l.getD j []).length ≤ 12) → ∃ b, Ev (fun k => plexusref46_Small.l0 k l (i : Int)) b ∧ (b = true → Few l)
  | 0, i, hm, hj => ⟨true, by
      refine Ev.step (fun k => by rw [plexusref46_Small.l0]) ?_
      exact evJF (by omega) (Ev.now _), fun _ => ⟨hl, fun r hr => by
        obtain ⟨j, hlt, rfl⟩ := List.getElem_of_mem hr
        have := hj j (by omega)
        rwa [show l.getD j [] = l[j] by simp [List.getD, hlt]] at this⟩⟩
  | m + 1, i, hm, hj => by
    by_cases h12 : (l.getD i []).length > 12
    · refine ⟨false, ?_, fun h => absurd h (by simp)⟩
      refine Ev.step (fun k => by rw [plexusref46_Small.l0]) ?_
      exact evJT (by omega) (evJT (by omega) (evJT (by rw [rdL_nat]; omega) (Ev.now _)))
    · obtain ⟨b, h1, h2⟩ := small_l0 l hl m (i + 1) (by omega) (fun j hlt => by
        rcases Nat.lt_succ_iff_lt_or_eq.1 hlt with h | h
        · exact hj j h
        · subst h; omega)
      refine ⟨b, ?_, h2⟩
      refine Ev.step (fun k => by rw [plexusref46_Small.l0]) ?_
      refine evJT (by omega) (evJT (by omega) (evJF (by rw [rdL_nat]; omega) ?_))
      rw [w64 (x := (i : Int) + 1) (by omega) (by omega), show (i : Int) + 1 = ((i + 1 : Nat) : Int) by omega]
      exact h1
theorem small_f (l : List (List Int)) : ∃ b, Ev (fun k => plexusref46_Small.f k l) b ∧ (b = true → Few l) := by
  by_cases h : l.length ≤ 12
  · obtain ⟨b, h1, h2⟩ := small_l0 l h l.length 0 rfl (fun j hj => by omega)
    refine ⟨b, ?_, h2⟩
    unfold plexusref46_Small.f
    exact evJF (by omega) h1
  · refine ⟨false, ?_, fun h => absurd h (by simp)⟩
    unfold plexusref46_Small.f
    exact evJT (by omega) (Ev.now _)
/-- How many bytes records take. -/
def jl : List (List Int) → Nat
  | [] => 0
  | r :: l => 8 * r.length + 24 + jl l
theorem jn_len : ∀ (l : List (List Int)) (key : Nat), (jn key l).length = jl l
  | [], key => rfl
  | r :: l, key => by
    rw [show jn key (r :: l) = enc key r ++ jn (tagN key r) l from rfl, List.length_append, enc_len, jn_len l]; rfl
theorem jl_app : ∀ (l m : List (List Int)), jl (l ++ m) = jl l + jl m
  | [], m => by simp [jl]
  | r :: l, m => by simp only [List.cons_append, jl, jl_app l m]; omega
theorem jl_few : ∀ (l : List (List Int)), (∀ r ∈ l, r.length ≤ 12) → jl l ≤ 120 * l.length
  | [], h => by simp [jl]
  | r :: l, h => by
    have h1 := jl_few l (fun x hx => h x (by simp [hx]))
    have h2 := h r (by simp)
    simp only [jl, List.length_cons]; omega
theorem jl_take (l : List (List Int)) (i : Nat) : jl (l.take i) ≤ jl l := by
  have := jl_app (l.take i) (l.drop i)
  rw [List.take_append_drop] at this
  omega
theorem take_succ46 {l : List (List Int)} {i : Nat} (h : i < l.length) : l.take (i + 1) = l.take i ++ [l.getD i []] := by
  rw [List.take_succ_eq_append_getElem h, show l.getD i [] = l[i] by simp [List.getD, h]]
/-- The numbers of bytes up to each record. -/
def ends (l : List (List Int)) (n : Nat) : List Int := (List.range n).map fun i => ((jl (l.take (i + 1)) : Nat) : Int)
theorem ends_succ (l : List (List Int)) (n : Nat) : ends l (n + 1) = ends l n ++ [((jl (l.take (n + 1)) : Nat) : Int)] := by simp [ends, List.range_succ]
theorem ends_len (l : List (List Int)) (n : Nat) : (ends l n).length = n := by simp [ends]
theorem ends_at (l : List (List Int)) {n i : Nat} (h : i < n) : rd (ends l n) (i : Int) = ((jl (l.take (i + 1)) : Nat) : Int) := by
  rw [rd_nat46]
  simp [ends, h]
theorem fit_take {l : List (List Int)} (h : Fit l) (i : Nat) : Fit (l.take i) := fun r hr => h r (List.mem_of_mem_take hr)
theorem made_l0 (l : List (List Int)) (hf : Fit l) (hn : l.length ≤ 30) (hs : ∀ r ∈ l, r.length ≤ 12) : ∀ (m i : Nat), l.length - i = m → i ≤ l.length → Ev (fun k => plexuslaw46_made.l0 k l (jn 0 (l.take i)) (ends l i) (i : Int)) (jn 0 l, ends l l.length)
  | 0, i, hm, hi => by
    obtain rfl : i = l.length := by omega
    refine Ev.step (fun k => by rw [plexuslaw46_made.l0]) ?_
    rw [List.take_length]
    exact evJF (by omega) (Ev.now _)
  | m + 1, i, hm, hi => by
    refine Ev.step (fun k => by rw [plexuslaw46_made.l0]) ?_
    have hlt : i < l.length := by omega
    refine evJT (by omega) (evJT (by omega) ?_)
    rw [rdL_nat]
    have hr := hs _ (getD_mem (d := []) hlt)
    have hz := jl_few (l.take i) (fun r hr => hs r (List.mem_of_mem_take hr))
    have hp := put_jn (l := l.take i) (r := l.getD i []) (fit_take hf i) (by omega) (by rw [jn_len]; rw [List.length_take] at hz; omega)
    rw [← take_succ46 hlt] at hp
    refine Ev.bind hp (evJT (by rw [ends_len]; omega) ?_)
    rw [jn_len, ← ends_succ, w64 (x := (i : Int) + 1) (by omega) (by omega), show (i : Int) + 1 = ((i + 1 : Nat) : Int) by omega]
    exact made_l0 l hf hn hs m (i + 1) (by omega) (by omega)
theorem made_f {l : List (List Int)} (hf : Fit l) (hn : l.length ≤ 30) (hs : ∀ r ∈ l, r.length ≤ 12) : Ev (fun k => plexuslaw46_made.f k l) (jn 0 l, ends l l.length) := by
  unfold plexuslaw46_made.f
  exact made_l0 l hf hn hs l.length 0 rfl (by omega)
theorem recs_l1 (l : List (List Int)) (hn : l.length ≤ 1000) (hs : ∀ r ∈ l, r.length ≤ 1000) (i : Nat) (hi : i < l.length) (h : Ev (fun k => plexusref46_Records.l0 k l l ((i + 1 : Nat) : Int)) true) : ∀ (m j : Nat), (l.getD i []).length - j = m → Ev (fun k => plexusref46_Records.l1 k l l (i : Int) (j : Int)) true
  | 0, j, hm => by
    refine Ev.step (fun k => by rw [plexusref46_Records.l1]) ?_
    refine evJT (by omega) (evJT (by omega) (evJF (by rw [rdL_nat]; omega) ?_))
    rw [w64 (x := (i : Int) + 1) (by omega) (by omega), show (i : Int) + 1 = ((i + 1 : Nat) : Int) by omega]
    exact h
  | m + 1, j, hm => by
    have hr := hs _ (getD_mem (d := []) hi)
    refine Ev.step (fun k => by rw [plexusref46_Records.l1]) ?_
    refine evJT (by omega) (evJT (by omega) (evJT (by rw [rdL_nat]; omega) (evJT (by omega) (evJT (by omega) (evJT (by rw [rdL_nat]; omega) (evJT rfl ?_))))))
    rw [w64 (x := (j : Int) + 1) (by omega) (by omega), show (j : Int) + 1 = ((j + 1 : Nat) : Int) by omega]
    exact recs_l1 l hn hs i hi h m (j + 1) (by omega)
theorem recs_l0 (l : List (List Int)) (hn : l.length ≤ 1000) (hs : ∀ r ∈ l, r.length ≤ 1000) : ∀ (m i : Nat), l.length - i = m → Ev (fun k => plexusref46_Records.l0 k l l (i : Int)) true
  | 0, i, hm => by
    refine Ev.step (fun k => by rw [plexusref46_Records.l0]) ?_
    exact evJF (by omega) (Ev.now _)
  | m + 1, i, hm => by
    refine Ev.step (fun k => by rw [plexusref46_Records.l0]) ?_
    refine evJT (by omega) (evJT (by omega) (evJT (by omega) (evJT rfl ?_)))
    exact recs_l1 l hn hs i (by omega) (recs_l0 l hn hs m (i + 1) (by omega)) _ 0 rfl
theorem recs_f {l : List (List Int)} (hn : l.length ≤ 1000) (hs : ∀ r ∈ l, r.length ≤ 1000) : Ev (fun k => plexusref46_Records.f k l l) true := by
  unfold plexusref46_Records.f
  exact evJT rfl (recs_l0 l hn hs _ 0 rfl)
theorem same46 (l : List Int) : plexusref46_Same.f l l = some true := by
  unfold plexusref46_Same.f
  rw [beq_self_eq_true]
theorem sev46 (l : List Int) : Ev (fun k => plexusref46_Same.f l l) true := by rw [same46]; exact Ev.now _
end Go.Proofs.YtcanekmlabehgaaQ
