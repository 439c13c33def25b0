/- The reference of seal; turned from Seal. -/
import Derived.Test.YtjnpcpnjcieheaaGreatQDr
import Derived.Test.YtjnpcpnjcieheaaGreatS47B
namespace Go.Proofs.YtjnpcpnjcieheaaGreatQ
set_option linter.unusedVariables false
set_option linter.unusedSimpArgs false
open Go Go.RowKit Go.Proofs.YtjnpcpnjcieheaaGreat.P47 Go.Proofs.YtjnpcpnjcieheaaGreat.V48 Go.Proofs.YtjnpcpnjcieheaaGreatW.PrintWords Go.Proofs.YtjnpcpnjcieheaaGreatW.PrintLast Go.Proofs.YtjnpcpnjcieheaaGreatW.PrintMore
theorem fstep_f {h w : Nat} (hh : h < 2 ^ 64) (hw : w < 2 ^ 64) : plexusref03_Step.f (h : Int) (w : Int) = some ((stepN h w : Nat) : Int) := dstep_f hh hw
theorem fjoin_f {a b : Int} (ha : U a) (hb : U b) : plexusref03_Join.f a b = some (jn a b) := by
  obtain ⟨A, rfl, hA⟩ := ha.nat
  obtain ⟨B, rfl, hB⟩ := hb.nat
  unfold plexusref03_Join.f jn
  rw [show (1785686382 : Int) = ((1785686382 : Nat) : Int) from rfl, fstep_f (by decide) hA]
  simp only [Option.bind_some, Int.toNat_natCast]
  rw [fstep_f (stepN_lt _ _) hB]; rfl
theorem rhalf_l0 {n : Nat} (hn : n ≤ 65536) : ∀ (m a : Nat), n - 2 ^ a ≤ m → 2 ^ a < n → Ev (fun k => plexusref03_Half.l0 k (n : Int) ((2 ^ a : Nat) : Int)) ((halfN n : Nat) : Int)
  | 0, a, hm, h => by omega
  | m + 1, a, hm, h => by
    refine Ev.step (fun k => by rw [plexusref03_Half.l0]) ?_
    have hp : 1 ≤ 2 ^ a := Nat.one_le_two_pow
    have hs : 2 ^ (a + 1) = 2 * 2 ^ a := by rw [Nat.pow_succ, Nat.mul_comm]
    by_cases h2 : 2 ^ (a + 1) < n
    · have ih := rhalf_l0 hn m (a + 1) (by omega) h2
      rw [hs] at ih h2
      generalize 2 ^ a = z at *
      have e : wrap64 (2 * (z : Int)) = ((2 * z : Nat) : Int) := by rw [w64 (by omega) (by omega)]; omega
      rw [e]
      exact evT (by omega) ih
    · have e1 : halfN n = 2 ^ a := by
        unfold halfN
        rw [(Nat.log2_eq_iff (n := n - 1) (k := a) (by omega)).2 ⟨by omega, by omega⟩]
      rw [e1]
      rw [hs] at h2
      generalize 2 ^ a = z at *
      have e : wrap64 (2 * (z : Int)) = ((2 * z : Nat) : Int) := by rw [w64 (by omega) (by omega)]; omega
      rw [e]
      exact evF (by omega) (Ev.now _)
theorem rhalf_f {n : Nat} (h2 : 2 ≤ n) (hn : n ≤ 65536) : Ev (fun k => plexusref03_Half.f k (n : Int)) ((halfN n : Nat) : Int) := by
  unfold plexusref03_Half.f
  exact rhalf_l0 hn n 0 (by omega) (by omega)
theorem rsides_f : ∀ (n i : Nat), i < n → n ≤ 65536 → Ev (fun k => plexusref03_Sides.f k (n : Int) (i : Int)) (sides n i) := by
  intro n
  induction n using Nat.strongRecOn with
  | ind n ih =>
    intro i hi hm
    refine Ev.step (fun k => by rw [plexusref03_Sides.f]) ?_
    by_cases h : n ≤ 1
    · rw [sides_one h]
      exact evT (by omega) (Ev.now _)
    · have h2 := halfN_lt (n := n) (by omega)
      have h3 := halfN_pos n
      refine evF (by omega) ?_
      refine Ev.bind (rhalf_f (by omega) hm) ?_
      by_cases hk : i < halfN n
      · rw [sides_l h hk]
        refine evT (by omega) ?_
        refine Ev.bind (ih (halfN n) (by omega) i hk (by omega)) ?_
        have := sides_le (halfN n) (by omega) i
        exact evT (by omega) (Ev.now _)
      · rw [sides_r h hk]
        refine evF (by omega) ?_
        rw [w64 (x := (n : Int) - _) (by omega) (by omega), w64 (x := (i : Int) - _) (by omega) (by omega), show (n : Int) - (halfN n : Nat) = ((n - halfN n : Nat) : Int) by omega, show (i : Int) - (halfN n : Nat) = ((i - halfN n : Nat) : Int) by omega]
        refine Ev.bind (ih (n - halfN n) (by omega) (i - halfN n) (by omega) (by omega)) ?_
        have := sides_le (n - halfN n) (by omega) (i - halfN n)
        exact evT (by omega) (Ev.now _)
theorem rroot_f : ∀ (n : Nat) (l : List Int), l.length = n → 1 ≤ n → n ≤ 65536 → (∀ x ∈ l, U x) → Ev (fun k => plexusref03_Root.f k l) (root 0 l) := by
  intro n
  induction n using Nat.strongRecOn with
  | ind n ih =>
    intro l hn h1 hm hl
    refine Ev.step (fun k => by rw [plexusref03_Root.f]) ?_
    simp only [hn]
    refine evF (by omega) ?_
    by_cases h : n ≤ 1
    · obtain rfl : n = 1 := by omega
      match l, hn with
      | [a], _ => rw [root_one]; exact evT (by omega) (evT (by omega) (Ev.now _))
    · have h2 := halfN_lt (n := n) (by omega)
      have h3 := halfN_pos n
      refine evF (by omega) ?_
      refine Ev.bind (rhalf_f (by omega) hm) ?_
      rw [root_big hn h]
      simp only [Int.toNat_natCast]
      refine evT (by omega) (evT (by omega) ?_)
      refine Ev.bind (ih (halfN n) (by omega) _ (by simp; omega) (by omega) (by omega) (take_U hl _)) ?_
      refine Ev.bind (ih (n - halfN n) (by omega) _ (by simp; omega) (by omega) (by omega) (drop_U hl _)) ?_
      rw [fjoin_f (root_U 0 U0 _ _ rfl (take_U hl _)) (root_U 0 U0 _ _ rfl (drop_U hl _))]
      exact Ev.now _
theorem rpath_f : ∀ (n : Nat) (l : List Int) (i : Nat), l.length = n → i < n → n ≤ 65536 → (∀ x ∈ l, U x) → Ev (fun k => plexusref03_path.f k l (i : Int)) (path 0 l i) := by
  intro n
  induction n using Nat.strongRecOn with
  | ind n ih =>
    intro l i hn hi hm hl
    refine Ev.step (fun k => by rw [plexusref03_path.f]) ?_
    simp only [hn]
    by_cases h : n ≤ 1
    · obtain rfl : n = 1 := by omega
      rw [path_one (by omega)]
      exact evT rfl (Ev.now _)
    · have h2 := halfN_lt (n := n) (by omega)
      have h3 := halfN_pos n
      refine evF (by omega) ?_
      refine Ev.bind (rhalf_f (by omega) hm) ?_
      simp only [Int.toNat_natCast]
      have hp1 := path_le 0 (halfN n) (l.take (halfN n)) (by simp; omega) (by omega) i
      have hp2 := path_le 0 (n - halfN n) (l.drop (halfN n)) (by simp; omega) (by omega) (i - halfN n)
      by_cases hk : i < halfN n
      · rw [path_l hn h hk]
        refine evT (by omega) (evT (by omega) (evT (by omega) ?_))
        refine Ev.bind (ih (halfN n) (by omega) (l.take (halfN n)) i (by simp; omega) hk (by omega) (take_U hl _)) ?_
        refine Ev.bind (rroot_f (n - halfN n) (l.drop (halfN n)) (by simp; omega) (by omega) (by omega) (drop_U hl _)) ?_
        exact evT (by omega) (Ev.now _)
      · rw [path_r hn h hk]
        refine evF (by omega) (evT (by omega) (evT (by omega) ?_))
        rw [show (i : Int) - (halfN n : Nat) = ((i - halfN n : Nat) : Int) by omega, w64 (x := ((i - halfN n : Nat) : Int)) (by omega) (by omega)]
        refine Ev.bind (ih (n - halfN n) (by omega) (l.drop (halfN n)) (i - halfN n) (by simp; omega) (by omega) (by omega) (drop_U hl _)) ?_
        refine Ev.bind (rroot_f (halfN n) (l.take (halfN n)) (by simp; omega) (by omega) (by omega) (take_U hl _)) ?_
        exact evT (by omega) (Ev.now _)
theorem rjoin_m {a b : Int} (ha : U a) (hb : U b) : Ev (fun k => plexusref03_Join.m k a b) (jn a b) := by
  obtain ⟨A, rfl, hA⟩ := ha.nat
  obtain ⟨B, rfl, hB⟩ := hb.nat
  refine evX (fun k => plexusref03_Join.m_eq k _ _) ?_
  refine Ev.bind (a := ((stepN 1785686382 A : Nat) : Int)) ⟨0, fun k _ => r3step k (by decide) hA⟩ (Ev.bind (a := jn (A : Int) (B : Int)) ⟨0, fun k _ => ?_⟩ (Ev.now _))
  unfold jn
  rw [Int.toNat_natCast, Int.toNat_natCast]
  exact r3step k (stepN_lt _ _) hB
theorem root_both {l : List Int} (hm : l.length ≤ 65536) (hl : ∀ x ∈ l, U x) : ∃ v, Ev (fun k => seal_Root.f k l) v ∧ Ev (fun k => plexusref03_Root.f k l) v := by
  by_cases h : l.length = 0
  · obtain rfl : l = [] := List.length_eq_zero_iff.1 h
    refine ⟨wd [], root0, ?_⟩
    have hw : Ev (fun k => plexusref03_Words.f k []) (wd []) := by
      refine Ev.step (g := fun k => plexusref03_Words.f k []) (f := fun k => Option.bind (plexusref03_Step.f 123610861172083 (IntKind.u64.wrap ((([] : List Int).length : Int)))) fun t325 => (some t325)) (fun k => rfl) ?_
      exact Ev.bind (a := wd []) ⟨0, fun k _ => rfl⟩ (Ev.now _)
    refine Ev.step (fun k => by rw [plexusref03_Root.f]) ?_
    exact evT rfl (Ev.bind hw (Ev.now _))
  · exact ⟨_, root_f _ l rfl (by omega) hm hl, rroot_f _ l rfl (by omega) hm hl⟩
end Go.Proofs.YtjnpcpnjcieheaaGreatQ
