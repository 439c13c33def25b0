/- The law that the row states of plexus/plexuslaw23.BoundMatchesReference: for every input the answer is true. Under no condition. -/
import Derived.Test.YtcanekmlabehgaaPx5
import Derived.Test.YtcanekmlabehgaaQBound
namespace Go.Proofs.Ytcanekmlabehgaa.Pure
set_option linter.unusedVariables false
set_option linter.unusedSimpArgs false
open Go.RowKit Go.Proofs.Ytcanekmlabehgaa.P Go.Proofs.YtcanekmlabehgaaW.PrintWords Go.Proofs.YtcanekmlabehgaaW.PrintLast Go.Proofs.YtcanekmlabehgaaQ

def alike {α : Type} [BEq α] (a b : Option α) : Bool := match a, b with
  | some x, some y => x == y
  | _, _ => false
theorem alike_of {α : Type} [BEq α] [LawfulBEq α] {a b : Option α} (h : alike a b = true) : ∃ r, a = some r ∧ b = some r := by
  unfold alike at h
  split at h
  · exact ⟨_, rfl, by rw [eq_of_beq h]⟩
  · exact absurd h (by simp)
def chk (n d : Nat) : Bool := alike (plexuslaw23_sphere.f 60 n d) (plexusref23_SphereIn.f 60 n d) && alike (plexuslaw23_singleton.f n d) (plexusref23_SingletonIn.f n d) && alike (plexuslaw23_plotkin.f 60 n d) (plexusref23_PlotkinIn.f n d) && alike (plexuslaw23_best.f 60 n d) (plexusref23_BestIn.f 60 n d)
theorem chk_all : ((List.range 17).all fun n => (List.range 17).all fun d => !(decide (1 ≤ d) && decide (d ≤ n)) || chk n d) = true := by kernel_rfl
def chkG (k d : Nat) : Bool := alike (plexuslaw23_griesmer.f 60 k d) (plexusref23_GriesmerIn.f 60 k d)
theorem chkG_all : ((List.range 17).all fun k => (List.range 65).all fun d => !(decide (1 ≤ k) && decide (1 ≤ d)) || chkG k d) = true := by kernel_rfl

theorem fine_no {m n d : Int} (h : ¬ (1 ≤ d ∧ d ≤ n ∧ n ≤ m)) : bound_fine.f m n d = some false ∧ plexusref23_Fine.f m n d = some false := by
  unfold bound_fine.f plexusref23_Fine.f
  by_cases h1 : 1 ≤ d
  · by_cases h2 : d ≤ n
    · have h3 : ¬ n ≤ m := fun h3 => h ⟨h1, h2, h3⟩
      simp [h1, h2, h3]
    · simp [h1, h2]
  · simp [h1]
theorem fine_yes {m n d : Int} (h : 1 ≤ d ∧ d ≤ n ∧ n ≤ m) : bound_fine.f m n d = some true ∧ plexusref23_Fine.f m n d = some true := by
  unfold bound_fine.f plexusref23_Fine.f
  simp [h.1, h.2.1, h.2.2]

theorem four (n d : Int) : ∃ r1 r2 r3 r4 : Int × Int, Ev (fun k => plexuslaw23_sphere.f k n d) r1 ∧ Ev (fun k => plexusref23_SphereIn.f k n d) r1 ∧ plexuslaw23_singleton.f n d = some r2 ∧ plexusref23_SingletonIn.f n d = some r2 ∧
    Ev (fun k => plexuslaw23_plotkin.f k n d) r3 ∧ plexusref23_PlotkinIn.f n d = some r3 ∧ Ev (fun k => plexuslaw23_best.f k n d) r4 ∧ Ev (fun k => plexusref23_BestIn.f k n d) r4 := by
  by_cases h : 1 ≤ d ∧ d ≤ n ∧ n ≤ 16
  · obtain ⟨N, rfl⟩ : ∃ N : Nat, n = N := ⟨n.toNat, by omega⟩
    obtain ⟨D, rfl⟩ : ∃ D : Nat, d = D := ⟨d.toNat, by omega⟩
    have h0 := List.all_eq_true.1 (List.all_eq_true.1 chk_all N (List.mem_range.2 (by omega))) D (List.mem_range.2 (by omega))
    rw [decide_eq_true (show 1 ≤ D by omega), decide_eq_true (show D ≤ N by omega)] at h0
    simp only [Bool.and_self, Bool.not_true, Bool.false_or, chk, Bool.and_eq_true] at h0
    obtain ⟨⟨⟨h1, h2⟩, h3⟩, h4⟩ := h0
    obtain ⟨r1, a1, b1⟩ := alike_of h1
    obtain ⟨r2, a2, b2⟩ := alike_of h2
    obtain ⟨r3, a3, b3⟩ := alike_of h3
    obtain ⟨r4, a4, b4⟩ := alike_of h4
    exact ⟨r1, r2, r3, r4, Ev.of (fun k => plexuslaw23_sphere.mono _ _ k) a1, Ev.of (fun k => plexusref23_SphereIn.mono _ _ k) b1, a2, b2, Ev.of (fun k => plexuslaw23_plotkin.mono _ _ k) a3, b3, Ev.of (fun k => plexuslaw23_best.mono _ _ k) a4, Ev.of (fun k => plexusref23_BestIn.mono _ _ k) b4⟩
  · obtain ⟨f1, f2⟩ := fine_no h
    refine ⟨(0, 1), (0, 1), (0, 1), (0, 1), Ev.of (fun k => plexuslaw23_sphere.mono _ _ k) (k := 1) ?_, Ev.of (fun k => plexusref23_SphereIn.mono _ _ k) (k := 1) ?_, ?_, ?_, Ev.of (fun k => plexuslaw23_plotkin.mono _ _ k) (k := 1) ?_, ?_, Ev.of (fun k => plexuslaw23_best.mono _ _ k) (k := 1) ?_, Ev.of (fun k => plexusref23_BestIn.mono _ _ k) (k := 1) ?_⟩
    · simp [plexuslaw23_sphere.f, bound_Sphere.f, f1]
    · simp [plexusref23_SphereIn.f, f2]
    · simp [plexuslaw23_singleton.f, bound_Singleton.f, f1]
    · simp [plexusref23_SingletonIn.f, f2]
    · simp [plexuslaw23_plotkin.f, bound_Plotkin.f, f1]
    · simp [plexusref23_PlotkinIn.f, f2]
    · simp [plexuslaw23_best.f, bound_Best.f, f1]
    · simp [plexusref23_BestIn.f, f2]
theorem grie (m d : Int) : ∃ r : Int × Int, Ev (fun k => plexuslaw23_griesmer.f k m d) r ∧ Ev (fun k => plexusref23_GriesmerIn.f k m d) r := by
  by_cases h : 1 ≤ m ∧ m ≤ 16 ∧ 1 ≤ d ∧ d ≤ 64
  · obtain ⟨M, rfl⟩ : ∃ N : Nat, m = N := ⟨m.toNat, by omega⟩
    obtain ⟨D, rfl⟩ : ∃ D : Nat, d = D := ⟨d.toNat, by omega⟩
    have h0 := List.all_eq_true.1 (List.all_eq_true.1 chkG_all M (List.mem_range.2 (by omega))) D (List.mem_range.2 (by omega))
    rw [decide_eq_true (show 1 ≤ M by omega), decide_eq_true (show 1 ≤ D by omega)] at h0
    simp only [Bool.and_self, Bool.not_true, Bool.false_or, chkG] at h0
    obtain ⟨r, a, b⟩ := alike_of h0
    exact ⟨r, Ev.of (fun k => plexuslaw23_griesmer.mono _ _ k) a, Ev.of (fun k => plexusref23_GriesmerIn.mono _ _ k) b⟩
  · refine ⟨(0, 1), Ev.of (fun k => plexuslaw23_griesmer.mono _ _ k) (k := 1) ?_, Ev.of (fun k => plexusref23_GriesmerIn.mono _ _ k) (k := 1) ?_⟩
    · unfold plexuslaw23_griesmer.f bound_Griesmer.f
      by_cases h1 : m < 1
      · simp [h1, bound_Griesmer.j0]
      · by_cases h2 : m > 16
        · simp [h1, h2, bound_Griesmer.j0]
        · by_cases h3 : d < 1
          · simp [h1, h2, h3, bound_Griesmer.j0]
          · have h4 : d > 64 := by omega
            simp [h1, h2, h3, h4, bound_Griesmer.j0]
    · unfold plexusref23_GriesmerIn.f
      by_cases h1 : m < 1
      · simp [h1, plexusref23_GriesmerIn.j0]
      · by_cases h2 : m > 16
        · simp [h1, h2, plexusref23_GriesmerIn.j0]
        · by_cases h3 : d < 1
          · simp [h1, h2, h3, plexusref23_GriesmerIn.j0]
          · have h4 : d > 64 := by omega
            simp [h1, h2, h3, h4, plexusref23_GriesmerIn.j0]
theorem same_l0 (l : List Int) (hl : l.length < 4611686018427387904) : ∀ n j : Nat, j + n = l.length → Ev (fun k => plexuslaw23_same.l0 k l l j) true := by
  intro n
  induction n with
  | zero =>
    intro j hj
    refine Ev.step (f := fun _ => some _) (fun k => ?_) (Ev.now _)
    simp only [plexuslaw23_same.l0]
    rw [if_neg (by omega)]
  | succ n ih =>
    intro j hj
    refine Ev.step (f := fun k => plexuslaw23_same.l0 k l l ((j + 1 : Nat) : Int)) (fun k => ?_) (ih (j + 1) (by omega))
    simp only [plexuslaw23_same.l0]
    rw [w64 (x := (j : Int) + 1) (by omega) (by omega)]
    simp only [show (j : Int) < (l.length : Int) from by omega, show (0 : Int) ≤ (j : Int) from by omega, if_true]
    rfl
theorem same_self (l : List Int) (hl : l.length < 4611686018427387904) : Ev (fun k => plexuslaw23_same.f k l l) true :=
  Ev.congr (f := fun k => plexuslaw23_same.l0 k l l ((0 : Nat) : Int)) (fun k => by simp [plexuslaw23_same.f]) (same_l0 l hl l.length 0 (by omega))
theorem tried_len (d : Nat) : ∀ (n w : Nat) (l : List Nat), (tried d n w l).length ≤ l.length + n
  | 0, _, _ => Nat.le_refl _
  | n + 1, w, l => by
    have := tried_len d n (w + 1) (gstep d l w)
    have h2 : (gstep d l w).length ≤ l.length + 1 := by unfold gstep; split <;> simp
    simp only [tried]
    omega
theorem greedies (n d : Int) : ∃ (l : List Int) (e : Int), l.length < 4611686018427387904 ∧ Ev (fun k => plexuslaw23_greedy.f k n d) (l, e) ∧ Ev (fun k => plexusref23_GreedyIn.f k n d) (l, e) := by
  by_cases h : 1 ≤ d ∧ d ≤ n ∧ n ≤ 10
  · obtain ⟨f1, f2⟩ := fine_yes h
    obtain ⟨N, rfl⟩ : ∃ N : Nat, n = N := ⟨n.toNat, by omega⟩
    obtain ⟨D, rfl⟩ : ∃ D : Nat, d = D := ⟨d.toNat, by omega⟩
    have hN : 2 ^ N ≤ 1024 := Nat.pow_le_pow_right (n := 2) (by decide) (show N ≤ 10 by omega)
    refine ⟨ints (tried D (2 ^ N) 0 []), 0, ?_, ?_, ?_⟩
    · have := tried_len D (2 ^ N) 0 []
      rw [ints_len]
      simp at this
      omega
    · have hs : shl .i64 1 (N : Int) = ((2 ^ N : Nat) : Int) := by
        have := power_f N (by omega)
        unfold plexusref23_Power.f at this
        rw [wu64 (by omega) (by omega), if_pos (by omega)] at this
        exact Option.some.inj this
      refine Ev.congr (f := fun k => (bound_Greedy.l0 k D (ints []) ((2 ^ N : Nat) : Int) ((0 : Nat) : Int)).bind fun bt => some (bt.1, bt.2)) (fun k => ?_) ?_
      · simp only [plexuslaw23_greedy.f, bound_Greedy.f, f1, Option.bind_some, if_true]
        rw [if_pos (by omega), hs]
        rfl
      · exact Ev.bind (greedy_l0 D (by omega) (2 ^ N) hN (2 ^ N) 0 [] (by omega) (by simp) (by simp)) (Ev.now _)
    · refine Ev.congr (f := fun k => plexusref23_GreedyIn.l0 k N D (ints []) ((0 : Nat) : Int)) (fun k => ?_) (greedyIn_l0 N D (by omega) (by omega) (2 ^ N) 0 [] (by omega) (by simp) (by simp))
      simp only [plexusref23_GreedyIn.f, f2, Option.bind_some, if_true]
      rfl
  · obtain ⟨f1, f2⟩ := fine_no h
    exact ⟨[], 1, by simp, Ev.of (fun k => plexuslaw23_greedy.mono _ _ k) (k := 1) (by simp [plexuslaw23_greedy.f, bound_Greedy.f, f1]), Ev.of (fun k => plexusref23_GreedyIn.mono _ _ k) (k := 1) (by simp [plexusref23_GreedyIn.f, f2])⟩
theorem exs : plexuslaw23_examples.f 100 = some true := by kernel_rfl
theorem exs_ev : Ev (fun k => plexuslaw23_examples.f k) true := Ev.of (fun k => plexuslaw23_examples.mono k) exs

theorem BoundMatchesReference : plexuslaw23_BoundMatchesReference.Pure := by
  intro n d m _ _ _
  obtain ⟨r1, r2, r3, r4, a1, b1, a2, b2, a3, b3, a4, b4⟩ := four n d
  obtain ⟨r5, a5, b5⟩ := grie m d
  obtain ⟨l, e, hl, a6, b6⟩ := greedies n d
  refine Ev.rounds (r := true) ?_
  unfold plexuslaw23_BoundMatchesReference.f
  refine Ev.bind exs_ev ?_
  simp only [if_true]
  refine Ev.bind a1 (Ev.bind b1 ?_)
  simp only [beq_self_eq_true, Bool.not_true, Bool.or_self, Bool.false_eq_true, if_false, a2, b2, Option.bind_some]
  refine Ev.bind a3 ?_
  simp only [b3, Option.bind_some, beq_self_eq_true, Bool.not_true, Bool.or_self, Bool.false_eq_true, if_false]
  refine Ev.bind a5 (Ev.bind b5 ?_)
  simp only [beq_self_eq_true, Bool.not_true, Bool.or_self, Bool.false_eq_true, if_false]
  refine Ev.bind a4 (Ev.bind b4 ?_)
  simp only [beq_self_eq_true, Bool.not_true, Bool.or_self, Bool.false_eq_true, if_false]
  refine Ev.bind a6 (Ev.bind b6 ?_)
  simp only [if_true]
  exact Ev.bind (same_self l hl) (Ev.now _)
end Go.Proofs.Ytcanekmlabehgaa.Pure
