/- The law that the row states of plexus/plexuslaw23.BoundWords: for every input the answer is true. Under no condition. -/
import Derived.Test.YtcanekmlabehgaaPx6
import Derived.Test.YtcanekmlabehgaaQBest
namespace Go.Proofs.Ytcanekmlabehgaa.Pure
set_option linter.unusedVariables false
set_option linter.unusedSimpArgs false
open Go.RowKit Go.Proofs.Ytcanekmlabehgaa.P Go.Proofs.YtcanekmlabehgaaW.PrintWords Go.Proofs.YtcanekmlabehgaaW.PrintLast Go.Proofs.YtcanekmlabehgaaQ

theorem tmod_nat (a b : Nat) : Int.tmod (a : Int) (b : Int) = ((a % b : Nat) : Int) := rfl
theorem far_code {n d w : Nat} {l : List Nat} (hn : n ≤ 16) (h : WCode n d l) (hw : w < 2 ^ n) (hf : far d l w = true) : WCode n d (l ++ [w]) := by
  refine ⟨fun x hx => ?_, ?_⟩
  · rcases List.mem_append.1 hx with hx | hx
    · exact h.1 x hx
    · rw [List.mem_singleton.1 hx]; exact hw
  · rw [List.pairwise_append]
    refine ⟨h.2, List.pairwise_singleton _ _, fun x hx y hy => ?_⟩
    rw [List.mem_singleton.1 hy]
    have := List.all_eq_true.1 hf x hx
    simp only [decide_eq_true_eq] at this
    rw [Nat.xor_comm, ← pop_more (Nat.xor_lt_two_pow hw (h.1 x hx)) hn]
    exact this
theorem chosen_l0 (n d : Nat) (hd : 1 ≤ d) (hd2 : d ≤ 100) (hn : n ≤ 10) (z0 z1 : Nat) (hz0 : z0 < 65536) (hz1 : z1 < 65536) : ∀ (m i : Nat) (ls : List Nat), i + m = 2 ^ n → WCode n d ls →
    ∃ cs, WCode n d cs ∧ Ev (fun k => plexusref23_Chosen.l0 k n d (ints ls) i z0 z1) (ints cs) := by
  have hN : 2 ^ n ≤ 1024 := Nat.pow_le_pow_right (n := 2) (by decide) hn
  have hpos : 0 < 2 ^ n := Nat.pow_pos (by decide)
  intro m
  induction m with
  | zero =>
    intro i ls hi hc
    refine ⟨ls, hc, Ev.step (f := fun _ => some _) (fun k => ?_) (Ev.now _)⟩
    simp only [plexusref23_Chosen.l0, power_f n (by omega), Option.bind_some]
    rw [if_neg (by omega)]
  | succ m ih =>
    intro i ls hi hc
    have hlen : ls.length ≤ 1024 := Nat.le_trans (hc.trivial_bound hd) hN
    have hlt : ∀ x ∈ ls, x < 1024 := fun x hx => Nat.lt_of_lt_of_le (hc.1 x hx) hN
    have hw : ((2 * z0 + 1) * i + z1) % 2 ^ n < 2 ^ n := Nat.mod_lt _ hpos
    have hprod : (2 * z0 + 1) * i ≤ 131072 * 1024 := Nat.mul_le_mul (by omega) (by omega)
    have hval : Int.tmod (wrap64 ((wrap64 ((wrap64 ((wrap64 (2 * (wrap64 (z0 : Int)))) + 1)) * (i : Int))) + (wrap64 (z1 : Int)))) ((2 ^ n : Nat) : Int) = ((((2 * z0 + 1) * i + z1) % 2 ^ n : Nat) : Int) := by
      rw [w64 (x := (z0 : Int)) (by omega) (by omega), w64 (x := 2 * (z0 : Int)) (by omega) (by omega), w64 (x := 2 * (z0 : Int) + 1) (by omega) (by omega), w64 (x := (z1 : Int)) (by omega) (by omega)]
      have e : (2 * (z0 : Int) + 1) * (i : Int) = (((2 * z0 + 1) * i : Nat) : Int) := by simp
      rw [e, w64 (x := (((2 * z0 + 1) * i : Nat) : Int)) (by omega) (by omega), w64 (by omega) (by omega)]
      rw [← tmod_nat]
      simp
    generalize ((2 * z0 + 1) * i + z1) % 2 ^ n = wv at hw hval
    have hw2 : wv < 1024 := Nat.lt_of_lt_of_le hw hN
    have hfar := far_f d wv ls hd2 hw2 hlt hlen
    refine (?_ : ∃ cs, WCode n d cs ∧ Ev (fun k => plexusref23_Chosen.l0 k n d (ints ls) i z0 z1) (ints cs))
    have hnext : ∃ cs, WCode n d cs ∧ Ev (fun k => plexusref23_Chosen.l0 k n d (ints (if far d ls wv then ls ++ [wv] else ls)) ((i + 1 : Nat) : Int) z0 z1) (ints cs) := by
      have hi2 : i + 1 + m = 2 ^ n := by omega
      by_cases ht : far d ls wv = true
      · rw [if_pos ht]
        have hc2 := far_code (by omega) hc hw ht
        exact ih (i + 1) (ls ++ [wv]) hi2 hc2
      · rw [if_neg ht]
        exact ih (i + 1) ls hi2 hc
    obtain ⟨cs, hcs, hev⟩ := hnext
    refine ⟨cs, hcs, Ev.step (f := fun k => (plexusref23_far.f k (ints ls) (wv : Int) d).bind fun t => plexusref23_Chosen.l0 k n d (ints (if t then ls ++ [wv] else ls)) ((i + 1 : Nat) : Int) z0 z1) (fun k => ?_) ?_⟩
    · simp only [plexusref23_Chosen.l0, power_f n (by omega), Option.bind_some]
      rw [if_pos (by omega), if_neg (by omega), hval, w64 (x := (i : Int) + 1) (by omega) (by omega)]
      congr 1
      funext t
      cases t
      · simp
      · rw [if_pos rfl, if_pos (by rw [ints_len]; omega), ← ints_snoc]
        rfl
    · exact Ev.bind (f := fun k t => plexusref23_Chosen.l0 k n d (ints (if t then ls ++ [wv] else ls)) ((i + 1 : Nat) : Int) z0 z1) hfar hev
theorem exs_ev' : Ev (fun k => plexuslaw23_examples.f k) true := Ev.of (fun k => plexuslaw23_examples.mono k) (show plexuslaw23_examples.f 100 = some true by kernel_rfl)
theorem u8_nat {a : Int} (h : (Lit.int .u8 a).wf = true) : ∃ n : Nat, a = n ∧ n < 256 := by
  simp [Lit.wf, IntKind.min, IntKind.max, IntKind.signed, IntKind.bits] at h
  exact ⟨a.toNat, by omega, by omega⟩
theorem u16_nat {a : Int} (h : (Lit.int .u16 a).wf = true) : ∃ n : Nat, a = n ∧ n < 65536 := by
  simp [Lit.wf, IntKind.min, IntKind.max, IntKind.signed, IntKind.bits] at h
  exact ⟨a.toNat, by omega, by omega⟩

theorem BoundWords : plexuslaw23_BoundWords.Pure := by
  intro a b z ha hb hz
  obtain ⟨A, rfl, hA⟩ := u8_nat ha
  obtain ⟨B, rfl, hB⟩ := u8_nat hb
  obtain ⟨z0, e0, hz0⟩ := u16_nat hz.1
  obtain ⟨z1, e1, hz1⟩ := u16_nat hz.2
  rw [e0, e1]
  have hL : wrap64 (1 + (Int.tmod (wrap64 (A : Int)) 10)) = ((1 + A % 10 : Nat) : Int) := by
    rw [w64 (x := (A : Int)) (by omega) (by omega), show (10 : Int) = ((10 : Nat) : Int) from rfl, tmod_nat, w64 (by omega) (by omega)]
    simp
  obtain ⟨n, hn⟩ : ∃ n, n = 1 + A % 10 := ⟨_, rfl⟩
  rw [← hn] at hL
  have hD : wrap64 (1 + (Int.tmod (wrap64 (B : Int)) (n : Int))) = ((1 + B % n : Nat) : Int) := by
    have : B % n < n := Nat.mod_lt _ (by omega)
    rw [w64 (x := (B : Int)) (by omega) (by omega), tmod_nat, w64 (by omega) (by omega)]
    simp
  have hBn : B % n < n := Nat.mod_lt _ (by omega)
  obtain ⟨d, hd⟩ : ∃ d, d = 1 + B % n := ⟨_, rfl⟩
  rw [← hd] at hD
  obtain ⟨cs, hc, hev⟩ := chosen_l0 n d (by omega) (by omega) (by omega) z0 z1 hz0 hz1 (2 ^ n) 0 [] (by omega) ⟨by simp, List.Pairwise.nil⟩
  obtain ⟨v1, v2, v3, v4⟩ := four_vals (n := n) (d := d) (by omega) (by omega) (by omega)
  have c1 := hc.sph (by omega)
  have c2 := hc.sing (by omega) (by omega)
  have c4 := hc.bst (by omega) (by omega)
  have rest : ∀ x50 : Bool, x50 = false → Ev (fun k => plexuslaw23_BoundWords.j0 k true n d (ints cs) x50) true := by
    rintro x50 rfl
    refine Ev.step (f := fun k => ((plexuslaw23_sphere.f k n d).bind fun bt291 => ((plexuslaw23_below.f ((ints cs).length : Int) bt291.1 bt291.2).bind fun t293 => (if t293 = true then ((plexuslaw23_singleton.f n d).bind fun bt294 => ((plexuslaw23_below.f ((ints cs).length : Int) bt294.1 bt294.2).bind fun t296 => (if t296 = true then ((plexuslaw23_best.f k n d).bind fun bt297 => ((plexuslaw23_below.f ((ints cs).length : Int) bt297.1 bt297.2).bind fun t299 => (some t299))) else (none)))) else (none))))) (fun k => by rw [plexuslaw23_BoundWords.j0]; simp) ?_
    refine Ev.bind v1 ?_
    have b1 : plexuslaw23_below.f ((ints cs).length : Int) (sph n d : Int) 0 = some true := by unfold plexuslaw23_below.f; rw [ints_len]; simp; exact c1
    have b2 : plexuslaw23_below.f ((ints cs).length : Int) (sing n d : Int) 0 = some true := by unfold plexuslaw23_below.f; rw [ints_len]; simp; exact c2
    have b4 : plexuslaw23_below.f ((ints cs).length : Int) (bst n d : Int) 0 = some true := by unfold plexuslaw23_below.f; rw [ints_len]; simp; exact c4
    simp only [b1, b2, v2, Option.bind_some, if_true]
    refine Ev.bind v4 ?_
    simp only [b4, Option.bind_some]
    exact Ev.now _
  refine Ev.rounds (r := true) ?_
  unfold plexuslaw23_BoundWords.f
  refine Ev.bind exs_ev' ?_
  simp only [if_true, hL, hD]
  rw [show (fun k : Nat => _) = (fun k : Nat => _) from rfl]
  refine Ev.congr (f := fun k => (plexusref23_Chosen.f k n d z0 z1).bind fun t285 => (plexuslaw23_plotkin.f k n d).bind fun bt288 => (if bt288.2 = 0 then (plexuslaw23_BoundWords.j0 k true n d t285 (decide ((t285.length : Int) > bt288.1))) else (if bt288.2 = 4 then (plexuslaw23_BoundWords.j0 k true n d t285 false) else (none)))) (fun k => by rw [if_neg (by omega)]) ?_
  refine Ev.bind (f := fun k t285 => _) (Ev.congr (f := fun k => plexusref23_Chosen.l0 k n d (ints []) ((0 : Nat) : Int) z0 z1) (fun k => rfl) hev) ?_
  refine Ev.bind v3 ?_
  cases hp : plo n d with
  | none =>
    simp only [show ¬ ((4 : Int) = 0) by decide, if_false, if_true]
    exact rest _ rfl
  | some b =>
    have c3 := hc.plo (by omega) (by omega) hp
    simp only [if_true]
    exact rest _ (by rw [ints_len]; simp; exact c3)
end Go.Proofs.Ytcanekmlabehgaa.Pure
