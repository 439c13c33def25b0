/- The reference of seal: digests, roots, paths, and which openings are accepted. -/
import Derived.Test.YtbkjdfemamehcaaQEx
import Derived.Test.YtbkjdfemamehcaaQS1
namespace Go.Proofs.YtbkjdfemamehcaaQ
set_option linter.unusedVariables false
set_option linter.unusedSimpArgs false
open Go Go.RowKit Go.Proofs.Ytbkjdfemamehcaa.P03 Go.Proofs.Ytbkjdfemamehcaa.V03 Go.Proofs.YtbkjdfemamehcaaW.PrintWords Go.Proofs.YtbkjdfemamehcaaW.PrintLast Go.Proofs.YtbkjdfemamehcaaW.PrintMore
theorem getD_get {l : List Int} {i : Nat} (h : i < l.length) : List.getD l (Int.toNat (i : Int)) (Int.ofNat 0) = l[i] := by
  rw [Int.toNat_natCast, List.getD_eq_getElem?_getD, List.getElem?_eq_getElem h]; rfl
theorem rwords_l0 (l : List Int) (hl : l.length ≤ 100000) : ∀ (m i : Nat) (h : Int), l.length - i = m → i ≤ l.length → U h →
    Ev2 (fun n k => plexusref03_Words.l0 n k l h (i : Int)) (Ytbkjdfemamehcaa.P03.seal_stepv (((l.drop i).map (IntKind.u64.wrap ·)).foldl Ytbkjdfemamehcaa.P03.seal_stepv h) (IntKind.u64.wrap (l.length : Int)))
  | 0, i, h, hm, hi, hu => by
    obtain rfl : i = l.length := by omega
    refine Ev2.step (fun n k => plexusref03_Words.l0_succ n k _ _ _) ?_
    rw [List.drop_length]
    exact ev2F (dF (by omega)) (Ev2.bind ⟨0, fun k _ => rstep_m k hu (wrap_U _)⟩ (Ev2.now _))
  | m + 1, i, h, hm, hi, hu => by
    have hlt : i < l.length := by omega
    refine Ev2.step (fun n k => plexusref03_Words.l0_succ n k _ _ _) ?_
    rw [inc64 (by omega), getD_get hlt, List.drop_eq_getElem_cons hlt, List.map_cons, List.foldl_cons]
    refine ev2T (dT (by omega)) (ev2T (by omega) (ev2T (by omega) (Ev2.bind ⟨0, fun k _ => rstep_m k hu (wrap_U _)⟩ ?_)))
    exact rwords_l0 l hl m (i + 1) _ (by omega) (by omega) (stepv_U hu (wrap_U _))
theorem rwords_f (l : List Int) (hl : l.length ≤ 100000) : Ev (fun k => plexusref03_Words.m k l) (wd l) := by
  refine evX (fun k => plexusref03_Words.m_eq k _) ?_
  have := (rwords_l0 l hl l.length 0 123610861172083 (by omega) (by omega) U_start).diag
  rwa [List.drop_zero] at this
theorem fstep_f {h w : Nat} (hh : h < 2 ^ 64) (hw : w < 2 ^ 64) : plexusref03_Step.f (h : Int) (w : Int) = some ((stepN h w : Nat) : Int) := dstep_f hh hw
theorem fjoin_f {a b : Int} (ha : U a) (hb : U b) : plexusref03_Join.f a b = some (jn a b) := by
  obtain ⟨A, rfl, hA⟩ := ha.nat
  obtain ⟨B, rfl, hB⟩ := hb.nat
  unfold plexusref03_Join.f jn
  rw [show (1785686382 : Int) = ((1785686382 : Nat) : Int) from rfl, fstep_f (by decide) hA]
  simp only [Option.bind_some, Int.toNat_natCast]
  rw [fstep_f (stepN_lt _ _) hB]; rfl
theorem rhalf_l0 {n : Nat} (hn : n ≤ 65536) : ∀ (m a : Nat), n - 2 ^ a ≤ m → 2 ^ a < n → Ev (fun k => plexusref03_Half.l0 k (n : Int) ((2 ^ a : Nat) : Int)) ((halfN n : Nat) : Int)
  | 0, a, hm, h => by omega
  | m + 1, a, hm, h => by
    refine Ev.step (fun k => by rw [plexusref03_Half.l0]) ?_
    have hp : 1 ≤ 2 ^ a := Nat.one_le_two_pow
    have hs : 2 ^ (a + 1) = 2 * 2 ^ a := by rw [Nat.pow_succ, Nat.mul_comm]
    by_cases h2 : 2 ^ (a + 1) < n
    · have ih := rhalf_l0 hn m (a + 1) (by omega) h2
      rw [hs] at ih h2
      generalize 2 ^ a = z at *
      have e : wrap64 (2 * (z : Int)) = ((2 * z : Nat) : Int) := by rw [w64 (by omega) (by omega)]; omega
      rw [e]
      exact evT (by omega) ih
    · have e1 : halfN n = 2 ^ a := by
        unfold halfN
        rw [(Nat.log2_eq_iff (n := n - 1) (k := a) (by omega)).2 ⟨by omega, by omega⟩]
      rw [e1]
      rw [hs] at h2
      generalize 2 ^ a = z at *
      have e : wrap64 (2 * (z : Int)) = ((2 * z : Nat) : Int) := by rw [w64 (by omega) (by omega)]; omega
      rw [e]
      exact evF (by omega) (Ev.now _)
theorem rhalf_f {n : Nat} (h2 : 2 ≤ n) (hn : n ≤ 65536) : Ev (fun k => plexusref03_Half.f k (n : Int)) ((halfN n : Nat) : Int) := by
  unfold plexusref03_Half.f
  exact rhalf_l0 hn n 0 (by omega) (by omega)
theorem rsides_f : ∀ (n i : Nat), i < n → n ≤ 65536 → Ev (fun k => plexusref03_Sides.f k (n : Int) (i : Int)) (sides n i) := by
  intro n
  induction n using Nat.strongRecOn with
  | ind n ih =>
    intro i hi hm
    refine Ev.step (fun k => by rw [plexusref03_Sides.f]) ?_
    by_cases h : n ≤ 1
    · rw [sides_one h]
      exact evT (by omega) (Ev.now _)
    · have h2 := halfN_lt (n := n) (by omega)
      have h3 := halfN_pos n
      refine evF (by omega) ?_
      refine Ev.bind (rhalf_f (by omega) hm) ?_
      by_cases hk : i < halfN n
      · rw [sides_l h hk]
        refine evT (by omega) ?_
        refine Ev.bind (ih (halfN n) (by omega) i hk (by omega)) ?_
        have := sides_le (halfN n) (by omega) i
        exact evT (by omega) (Ev.now _)
      · rw [sides_r h hk]
        refine evF (by omega) ?_
        rw [w64 (x := (n : Int) - _) (by omega) (by omega), w64 (x := (i : Int) - _) (by omega) (by omega), show (n : Int) - (halfN n : Nat) = ((n - halfN n : Nat) : Int) by omega, show (i : Int) - (halfN n : Nat) = ((i - halfN n : Nat) : Int) by omega]
        refine Ev.bind (ih (n - halfN n) (by omega) (i - halfN n) (by omega) (by omega)) ?_
        have := sides_le (n - halfN n) (by omega) (i - halfN n)
        exact evT (by omega) (Ev.now _)
theorem rroot_f : ∀ (n : Nat) (l : List Int), l.length = n → 1 ≤ n → n ≤ 65536 → (∀ x ∈ l, U x) → Ev (fun k => plexusref03_Root.f k l) (root 0 l) := by
  intro n
  induction n using Nat.strongRecOn with
  | ind n ih =>
    intro l hn h1 hm hl
    refine Ev.step (fun k => by rw [plexusref03_Root.f]) ?_
    simp only [hn]
    refine evF (by omega) ?_
    by_cases h : n ≤ 1
    · obtain rfl : n = 1 := by omega
      match l, hn with
      | [a], _ => rw [root_one]; exact evT (by omega) (evT (by omega) (Ev.now _))
    · have h2 := halfN_lt (n := n) (by omega)
      have h3 := halfN_pos n
      refine evF (by omega) ?_
      refine Ev.bind (rhalf_f (by omega) hm) ?_
      rw [root_big hn h]
      simp only [Int.toNat_natCast]
      refine evT (by omega) (evT (by omega) ?_)
      refine Ev.bind (ih (halfN n) (by omega) _ (by simp; omega) (by omega) (by omega) (take_U hl _)) ?_
      refine Ev.bind (ih (n - halfN n) (by omega) _ (by simp; omega) (by omega) (by omega) (drop_U hl _)) ?_
      rw [fjoin_f (root_U 0 U0 _ _ rfl (take_U hl _)) (root_U 0 U0 _ _ rfl (drop_U hl _))]
      exact Ev.now _
theorem rpath_f : ∀ (n : Nat) (l : List Int) (i : Nat), l.length = n → i < n → n ≤ 65536 → (∀ x ∈ l, U x) → Ev (fun k => plexusref03_path.f k l (i : Int)) (path 0 l i) := by
  intro n
  induction n using Nat.strongRecOn with
  | ind n ih =>
    intro l i hn hi hm hl
    refine Ev.step (fun k => by rw [plexusref03_path.f]) ?_
    simp only [hn]
    by_cases h : n ≤ 1
    · obtain rfl : n = 1 := by omega
      rw [path_one (by omega)]
      exact evT rfl (Ev.now _)
    · have h2 := halfN_lt (n := n) (by omega)
      have h3 := halfN_pos n
      refine evF (by omega) ?_
      refine Ev.bind (rhalf_f (by omega) hm) ?_
      simp only [Int.toNat_natCast]
      have hp1 := path_le 0 (halfN n) (l.take (halfN n)) (by simp; omega) (by omega) i
      have hp2 := path_le 0 (n - halfN n) (l.drop (halfN n)) (by simp; omega) (by omega) (i - halfN n)
      by_cases hk : i < halfN n
      · rw [path_l hn h hk]
        refine evT (by omega) (evT (by omega) (evT (by omega) ?_))
        refine Ev.bind (ih (halfN n) (by omega) (l.take (halfN n)) i (by simp; omega) hk (by omega) (take_U hl _)) ?_
        refine Ev.bind (rroot_f (n - halfN n) (l.drop (halfN n)) (by simp; omega) (by omega) (by omega) (drop_U hl _)) ?_
        exact evT (by omega) (Ev.now _)
      · rw [path_r hn h hk]
        refine evF (by omega) (evT (by omega) (evT (by omega) ?_))
        rw [show (i : Int) - (halfN n : Nat) = ((i - halfN n : Nat) : Int) by omega, w64 (x := ((i - halfN n : Nat) : Int)) (by omega) (by omega)]
        refine Ev.bind (ih (n - halfN n) (by omega) (l.drop (halfN n)) (i - halfN n) (by simp; omega) (by omega) (by omega) (drop_U hl _)) ?_
        refine Ev.bind (rroot_f (halfN n) (l.take (halfN n)) (by simp; omega) (by omega) (by omega) (take_U hl _)) ?_
        exact evT (by omega) (Ev.now _)
theorem ropen_f {l : List Int} {i : Nat} (hi : i < l.length) (hm : l.length ≤ 65536) (hl : ∀ x ∈ l, U x) : Ev (fun k => plexusref03_OpenIn.m k l (i : Int)) (path 0 l i, 0) := by
  refine evX (fun k => plexusref03_OpenIn.m_eq k _ _) ?_
  exact evF (dF (by omega)) (evF (dF (by omega)) (Ev.bind (rpath_f l.length l i rfl hi hm hl) (Ev.now _)))
theorem rjoin_m {a b : Int} (ha : U a) (hb : U b) : Ev (fun k => plexusref03_Join.m k a b) (jn a b) := by
  obtain ⟨A, rfl, hA⟩ := ha.nat
  obtain ⟨B, rfl, hB⟩ := hb.nat
  refine evX (fun k => plexusref03_Join.m_eq k _ _) ?_
  refine Ev.bind (a := ((stepN 1785686382 A : Nat) : Int)) ⟨0, fun k _ => r3step k (by decide) hA⟩ (Ev.bind (a := jn (A : Int) (B : Int)) ⟨0, fun k _ => ?_⟩ (Ev.now _))
  unfold jn
  rw [Int.toNat_natCast, Int.toNat_natCast]
  exact r3step k (stepN_lt _ _) hB
theorem rup_m {a b : Int} {s : Bool} (ha : U a) (hb : U b) : Ev (fun k => plexusref03_Up.m k a b s) (up a b s) := by
  refine evX (fun k => plexusref03_Up.m_eq k _ _ _) ?_
  unfold up
  cases s with
  | true => exact evT rfl (Ev.bind (rjoin_m ha hb) (Ev.now _))
  | false => exact evF (by decide) (Ev.bind (rjoin_m hb ha) (Ev.now _))
theorem rck_l0 (r : Int) (n : Int) (p : List Int) (S : List Bool) (hS : S.length = p.length) (hm : p.length ≤ 1000000) (hp : ∀ x ∈ p, U x) : ∀ (m j : Nat) (h : Int), p.length - j = m → U h →
    Ev2 (fun a k => plexusref03_Check.l0 a k r (n, p) S h (j : Int)) (if fold h (p.drop j) (S.drop j) = r then 0 else 6)
  | 0, j, h, hj, hu => by
    refine Ev2.step (fun a k => plexusref03_Check.l0_succ a k _ _ _ _ _) ?_
    rw [List.drop_of_length_le (l := p) (by omega), List.drop_of_length_le (l := S) (by omega)]
    refine ev2F (dF (by omega)) ?_
    by_cases q : h = r
    · rw [if_pos (show fold h [] [] = r from q)]
      exact ev2F (nF q) (Ev2.now _)
    · rw [if_neg (show ¬ fold h [] [] = r from q)]
      exact ev2T (nT q) (Ev2.now _)
  | m + 1, j, h, hj, hu => by
    have hlt : j < p.length := by omega
    have hltS : j < S.length := by omega
    refine Ev2.step (fun a k => plexusref03_Check.l0_succ a k _ _ _ _ _) ?_
    have g1 : List.getD p (Int.toNat (j : Int)) (Int.ofNat 0) = p[j] := getD_get hlt
    have g2 : List.getD S (Int.toNat (j : Int)) false = S[j] := by rw [Int.toNat_natCast, List.getD_eq_getElem?_getD, List.getElem?_eq_getElem hltS]; rfl
    have hpj := hp _ (List.getElem_mem hlt)
    refine ev2T (dT (by omega)) (ev2T (by omega) (ev2T (by show (j : Int) < (p.length : Int); omega) (ev2T (by omega) (ev2T (by omega) ?_))))
    simp only [g1, g2]
    refine Ev2.bind (rup_m hu hpj) ?_
    rw [inc64 (by omega), List.drop_eq_getElem_cons hlt, List.drop_eq_getElem_cons hltS]
    exact rck_l0 r n p S hS hm hp m (j + 1) _ (by omega) (up_U _ _ _)
theorem rck_f {r lf : Int} {n i : Nat} {p : List Int} (hi : i < n) (hn : n ≤ 4096) (hp : ∀ x ∈ p, U x) (hm : p.length ≤ 1000000) (hl : U lf) :
    Ev (fun k => plexusref03_Check.m k r ((n : Int), p) ((i : Int), lf)) (if (sides n i).length = p.length then (if fold lf p (sides n i) = r then 0 else 6) else 6) := by
  refine evX (fun k => plexusref03_Check.m_eq k _ _ _) ?_
  refine evF (dF (by show ¬ ((i : Int) < 0); omega)) (evF (dF (by show ¬ ((i : Int) ≥ (n : Int)); omega)) (evF (dF (by show ¬ ((n : Int) > 4096); omega)) (Ev.bind (rsides_f n i hi (by omega)) ?_)))
  by_cases q : (sides n i).length = p.length
  · rw [if_pos q]
    refine evF (nF (by show ((sides n i).length : Int) = (p.length : Int); omega)) ?_
    exact (rck_l0 r n p (sides n i) q hm hp p.length 0 lf (by omega) hl).diag
  · rw [if_neg q]
    exact evT (nT (by show ((sides n i).length : Int) ≠ (p.length : Int); omega)) (Ev.now _)
theorem inv_A : Ev (fun k => plexusref03_inverse.m k 13787848793156543929) 10871156337175269513 := by
  refine evX (fun k => plexusref03_inverse.m_eq k _) ?_
  have h : Ev2 (fun n k => plexusref03_inverse.l0 n k 13787848793156543929 13787848793156543929 0) 10871156337175269513 := by
    refine Ev2.step (fun n k => plexusref03_inverse.l0_succ n k _ _ _) (ev2T (by decide) ?_)
    rw [show IntKind.wrap IntKind.u64 (13787848793156543929 * IntKind.wrap IntKind.u64 (2 - IntKind.wrap IntKind.u64 (13787848793156543929 * 13787848793156543929))) = 16496376113027886985 from by decide +kernel, show IntKind.wrap IntKind.i64 (0 + 1) = 1 from by decide +kernel]
    refine Ev2.step (fun n k => plexusref03_inverse.l0_succ n k _ _ _) (ev2T (by decide) ?_)
    rw [show IntKind.wrap IntKind.u64 (16496376113027886985 * IntKind.wrap IntKind.u64 (2 - IntKind.wrap IntKind.u64 (13787848793156543929 * 16496376113027886985))) = 2203917495349842057 from by decide +kernel, show IntKind.wrap IntKind.i64 (1 + 1) = 2 from by decide +kernel]
    refine Ev2.step (fun n k => plexusref03_inverse.l0_succ n k _ _ _) (ev2T (by decide) ?_)
    rw [show IntKind.wrap IntKind.u64 (2203917495349842057 * IntKind.wrap IntKind.u64 (2 - IntKind.wrap IntKind.u64 (13787848793156543929 * 2203917495349842057))) = 2756543469426151561 from by decide +kernel, show IntKind.wrap IntKind.i64 (2 + 1) = 3 from by decide +kernel]
    refine Ev2.step (fun n k => plexusref03_inverse.l0_succ n k _ _ _) (ev2T (by decide) ?_)
    rw [show IntKind.wrap IntKind.u64 (2756543469426151561 * IntKind.wrap IntKind.u64 (2 - IntKind.wrap IntKind.u64 (13787848793156543929 * 2756543469426151561))) = 10871156337175269513 from by decide +kernel, show IntKind.wrap IntKind.i64 (3 + 1) = 4 from by decide +kernel]
    refine Ev2.step (fun n k => plexusref03_inverse.l0_succ n k _ _ _) (ev2T (by decide) ?_)
    rw [show IntKind.wrap IntKind.u64 (10871156337175269513 * IntKind.wrap IntKind.u64 (2 - IntKind.wrap IntKind.u64 (13787848793156543929 * 10871156337175269513))) = 10871156337175269513 from by decide +kernel, show IntKind.wrap IntKind.i64 (4 + 1) = 5 from by decide +kernel]
    refine Ev2.step (fun n k => plexusref03_inverse.l0_succ n k _ _ _) (ev2T (by decide) ?_)
    rw [show IntKind.wrap IntKind.u64 (10871156337175269513 * IntKind.wrap IntKind.u64 (2 - IntKind.wrap IntKind.u64 (13787848793156543929 * 10871156337175269513))) = 10871156337175269513 from by decide +kernel, show IntKind.wrap IntKind.i64 (5 + 1) = 6 from by decide +kernel]
    refine Ev2.step (fun n k => plexusref03_inverse.l0_succ n k _ _ _) (ev2F (by decide) (Ev2.now _))
  exact h.diag
theorem inv_B : Ev (fun k => plexusref03_inverse.m k 11400714819323198485) 17428512612931826493 := by
  refine evX (fun k => plexusref03_inverse.m_eq k _) ?_
  have h : Ev2 (fun n k => plexusref03_inverse.l0 n k 11400714819323198485 11400714819323198485 0) 17428512612931826493 := by
    refine Ev2.step (fun n k => plexusref03_inverse.l0_succ n k _ _ _) (ev2T (by decide) ?_)
    rw [show IntKind.wrap IntKind.u64 (11400714819323198485 * IntKind.wrap IntKind.u64 (2 - IntKind.wrap IntKind.u64 (11400714819323198485 * 11400714819323198485))) = 15862969329784324093 from by decide +kernel, show IntKind.wrap IntKind.i64 (0 + 1) = 1 from by decide +kernel]
    refine Ev2.step (fun n k => plexusref03_inverse.l0_succ n k _ _ _) (ev2T (by decide) ?_)
    rw [show IntKind.wrap IntKind.u64 (15862969329784324093 * IntKind.wrap IntKind.u64 (2 - IntKind.wrap IntKind.u64 (11400714819323198485 * 15862969329784324093))) = 10449034103236961085 from by decide +kernel, show IntKind.wrap IntKind.i64 (1 + 1) = 2 from by decide +kernel]
    refine Ev2.step (fun n k => plexusref03_inverse.l0_succ n k _ _ _) (ev2T (by decide) ?_)
    rw [show IntKind.wrap IntKind.u64 (10449034103236961085 * IntKind.wrap IntKind.u64 (2 - IntKind.wrap IntKind.u64 (11400714819323198485 * 10449034103236961085))) = 14592201029865403197 from by decide +kernel, show IntKind.wrap IntKind.i64 (2 + 1) = 3 from by decide +kernel]
    refine Ev2.step (fun n k => plexusref03_inverse.l0_succ n k _ _ _) (ev2T (by decide) ?_)
    rw [show IntKind.wrap IntKind.u64 (14592201029865403197 * IntKind.wrap IntKind.u64 (2 - IntKind.wrap IntKind.u64 (11400714819323198485 * 14592201029865403197))) = 6782847518758105917 from by decide +kernel, show IntKind.wrap IntKind.i64 (3 + 1) = 4 from by decide +kernel]
    refine Ev2.step (fun n k => plexusref03_inverse.l0_succ n k _ _ _) (ev2T (by decide) ?_)
    rw [show IntKind.wrap IntKind.u64 (6782847518758105917 * IntKind.wrap IntKind.u64 (2 - IntKind.wrap IntKind.u64 (11400714819323198485 * 6782847518758105917))) = 17428512612931826493 from by decide +kernel, show IntKind.wrap IntKind.i64 (4 + 1) = 5 from by decide +kernel]
    refine Ev2.step (fun n k => plexusref03_inverse.l0_succ n k _ _ _) (ev2T (by decide) ?_)
    rw [show IntKind.wrap IntKind.u64 (17428512612931826493 * IntKind.wrap IntKind.u64 (2 - IntKind.wrap IntKind.u64 (11400714819323198485 * 17428512612931826493))) = 17428512612931826493 from by decide +kernel, show IntKind.wrap IntKind.i64 (5 + 1) = 6 from by decide +kernel]
    refine Ev2.step (fun n k => plexusref03_inverse.l0_succ n k _ _ _) (ev2F (by decide) (Ev2.now _))
  exact h.diag
theorem Ev2.late {α : Type} {g f : Nat → Nat → Option α} {r : α} (K0 : Nat) (h : ∀ n k, K0 ≤ k → g n k = f n k) (q : Ev2 f r) : Ev2 g r := by
  obtain ⟨K, q⟩ := q
  exact ⟨K + K0, fun n k hn hk => by rw [h n k (by omega)]; exact q n k (by omega) (by omega)⟩
theorem shl8 {b : Int} {t : Nat} (ht : t < 8) : Go.Vx.shF BinOp.shl IntKind.u64 b (IntKind.wrap IntKind.u64 (IntKind.wrap IntKind.i64 (8 * (t : Int)))) = IntKind.u64.wrap (b * 2 ^ (8 * t)) := by
  rw [wrap_i64', w64 (by omega) (by omega), u64_wrap]
  show IntKind.u64.wrap (b * 2 ^ min (8 * (t : Int) % 18446744073709551616).toNat 64) = _
  rw [show min (8 * (t : Int) % 18446744073709551616).toNat 64 = 8 * t by omega]
theorem rbytes_l1 (l : List Int) (hl : l.length ≤ 100000) (v1 : Int) (j : Nat) (hj : 8 * j < l.length) : ∀ (m t : Nat), min 8 (l.length - 8 * j) - t = m → t ≤ min 8 (l.length - 8 * j) → ∀ n1 k n0, m < n1 →
    plexusref03_Bytes.l1 n1 k n0 l v1 ((8 * j : Nat) : Int) (seal_Bytes.part (l.drop (8 * j)) t) (t : Int) = (plexusref03_Step.m k v1 (seal_Bytes.wrd l j)).bind fun r => plexusref03_Bytes.l0 n0 k l r ((8 * (j + 1) : Nat) : Int)
  | 0, t, hm, ht, n1, k, n0, hn => by
    obtain ⟨n, rfl⟩ : ∃ n, n1 = n + 1 := ⟨n1 - 1, by omega⟩
    have e : t = min 8 (l.length - 8 * j) := by omega
    have ew : seal_Bytes.part (l.drop (8 * j)) t = seal_Bytes.wrd l j := by rw [e]; rfl
    have ei : IntKind.wrap IntKind.i64 (((8 * j : Nat) : Int) + 8) = ((8 * (j + 1) : Nat) : Int) := by rw [wrap_i64', w64 (by omega) (by omega)]; omega
    have et : IntKind.wrap IntKind.i64 (((8 * j : Nat) : Int) + (t : Int)) = ((8 * j + t : Nat) : Int) := by rw [wrap_i64', w64 (by omega) (by omega)]; omega
    rw [plexusref03_Bytes.l1_succ, ew, ei, et]
    by_cases h8 : (t : Int) < 8
    · rw [if_pos (dT h8), if_neg (dF (by omega))]
    · rw [if_neg (dF h8)]
  | m + 1, t, hm, ht, n1, k, n0, hn => by
    obtain ⟨n, rfl⟩ : ∃ n, n1 = n + 1 := ⟨n1 - 1, by omega⟩
    have hlt : 8 * j + t < l.length := by omega
    have et : IntKind.wrap IntKind.i64 (((8 * j : Nat) : Int) + (t : Int)) = ((8 * j + t : Nat) : Int) := by rw [wrap_i64', w64 (by omega) (by omega)]; omega
    have e0 : ¬ (IntKind.wrap IntKind.u64 (IntKind.wrap IntKind.i64 (8 * (t : Int))) < 0) := by rw [u64_wrap]; omega
    have es : (l.drop (8 * j)).getD t 0 = l[8 * j + t] := by
      rw [List.getD_eq_getElem?_getD, List.getElem?_drop, List.getElem?_eq_getElem hlt]; rfl
    have ep : IntKind.wrap IntKind.u64 (↑(BitVec.toNat (BitVec.ofInt (IntKind.bits IntKind.u64) (seal_Bytes.part (l.drop (8 * j)) t) ||| BitVec.ofInt (IntKind.bits IntKind.u64) (IntKind.u64.wrap (IntKind.wrap IntKind.u64 l[8 * j + t] * 2 ^ (8 * t))))) : Int) = seal_Bytes.part (l.drop (8 * j)) (t + 1) := by
      show _ = seal_Bytes.stp _ t _
      rw [es]; rfl
    rw [plexusref03_Bytes.l1_succ, et, getD_get hlt, shl8 (by omega), if_pos (dT (by omega)), if_pos (dT (by omega)), if_pos (by omega), if_pos (by omega), if_neg e0, inc64 (by omega), ep]
    exact rbytes_l1 l hl v1 j hj m (t + 1) (by omega) (by omega) n k n0 (by omega)
theorem rbytes_l0 (l : List Int) (hl : l.length ≤ 100000) (hb : ∀ x ∈ l, B8 x) : ∀ (m j : Nat) (v : Int), (l.length + 7) / 8 - j = m → j ≤ (l.length + 7) / 8 → v = seal_Bytes.dig l 1818321765 j → U v →
    Ev2 (fun n k => plexusref03_Bytes.l0 n k l v ((8 * j : Nat) : Int)) (seal_stepv (seal_Bytes.dig l 1818321765 ((l.length + 7) / 8)) (l.length : Int))
  | 0, j, v, hm, hj, hv, hu => by
    refine Ev2.step (fun n k => plexusref03_Bytes.l0_succ n k _ _ _) (ev2F (dF (by omega)) ?_)
    have e : j = (l.length + 7) / 8 := by omega
    rw [u64_wrap, show (l.length : Int) % 18446744073709551616 = (l.length : Int) by omega, ← e, ← hv]
    exact Ev2.bind ⟨0, fun k _ => rstep_m k hu ⟨by omega, by omega⟩⟩ (Ev2.now _)
  | m + 1, j, v, hm, hj, hv, hu => by
    have hlt : 8 * j < l.length := by omega
    refine Ev2.step (fun n k => plexusref03_Bytes.l0_succ n k _ _ _) (ev2T (dT (by omega)) ?_)
    refine Ev2.late 9 (fun n k hk => rbytes_l1 l hl v j hlt _ 0 rfl (by omega) k k n (by omega)) ?_
    refine Ev2.bind ⟨0, fun k _ => rstep_m k hu (wrd_U hb j)⟩ ?_
    exact rbytes_l0 l hl hb m (j + 1) _ (by omega) (by omega) (by rw [hv]; exact (seal_Bytes.dig_succ l _ j).symm) (stepv_U hu (wrd_U hb j))
theorem rbytes_f {l : List Int} (hl : l.length ≤ 100000) (hb : ∀ x ∈ l, B8 x) : Ev (fun k => plexusref03_Bytes.m k l) (seal_stepv (seal_Bytes.dig l 1818321765 ((l.length + 7) / 8)) (l.length : Int)) := by
  refine evX (fun k => plexusref03_Bytes.m_eq k _) ?_
  exact (rbytes_l0 l hl hb _ 0 1818321765 rfl (by omega) rfl ⟨by decide, by decide⟩).diag
theorem sbytes_f {l : List Int} (hl : l.length ≤ 100000) : seal_Bytes.f l = some (seal_stepv (seal_Bytes.dig l 1818321765 ((l.length + 7) / 8)) (l.length : Int)) := if_pos (by omega)
theorem grown_l0 (n : Nat) (hn : n ≤ 1000) : ∀ (m : Nat) (d : List Int), n - d.length = m → d.length ≤ n → (∀ x ∈ d, U x) →
    ∃ r : List Int, r.length = n ∧ (∀ x ∈ r, U x) ∧ Ev2 (fun a k => plexusref03_Grown.l0 a k (n : Int) d) r
  | 0, d, hm, hd, hu => ⟨d, by omega, hu, Ev2.step (fun a k => plexusref03_Grown.l0_succ a k _ _) (ev2F (dF (by omega)) (Ev2.now _))⟩
  | m + 1, d, hm, hd, hu => by
    obtain ⟨x, hx, ex⟩ : ∃ x, U x ∧ ∀ k, plexusref03_Step.m k (IntKind.wrap IntKind.u64 (d.length : Int)) (IntKind.wrap IntKind.u64 (n : Int)) = some x := ⟨_, stepv_U (wrap_U _) (wrap_U _), fun k => rstep_m k (wrap_U _) (wrap_U _)⟩
    obtain ⟨r, h1, h2, h3⟩ := grown_l0 n hn m (d ++ [x]) (by simp; omega) (by simp; omega) (fun y hy => by
      rcases List.mem_append.1 hy with q | q
      · exact hu y q
      · rw [List.mem_singleton.1 q]; exact hx)
    refine ⟨r, h1, h2, Ev2.step (fun a k => plexusref03_Grown.l0_succ a k _ _) (ev2T (dT (by omega)) (Ev2.bind (a := x) ⟨0, fun k _ => ex k⟩ (ev2T (by simp; omega) h3)))⟩
theorem grown_f {l : List Int} {n : Nat} (hn : n ≤ 1000) (hl : l.length ≤ 100000) (hu : ∀ x ∈ l, U x) : ∃ r : List Int, r.length = n ∧ (∀ x ∈ r, U x) ∧ Ev (fun k => plexusref03_Grown.m k l (n : Int)) r := by
  have e : Go.Vx.mnF (l.length : Int) (n : Int) = ((min l.length n : Nat) : Int) := by unfold Go.Vx.mnF; split <;> omega
  obtain ⟨r, h1, h2, h3⟩ := grown_l0 n hn _ ([] ++ l.take (min l.length n)) rfl (by simp; omega) (fun x hx => hu x (List.mem_of_mem_take (by simpa using hx)))
  refine ⟨r, h1, h2, evX (fun k => plexusref03_Grown.m_eq k _ _) ?_⟩
  rw [e, Int.toNat_natCast]
  exact evT (by omega) (evT (by omega) (evT (by rw [List.length_take]; omega) h3.diag))
theorem open_out {l : List Int} {i : Int} (h : i < 0 ∨ (l.length : Int) ≤ i) : Ev (fun k => plexuslaw03_opened.m k l i) ([], 1) := by
  refine evX (fun k => plexuslaw03_opened.m_eq k _ _) (Ev.bind (a := ([], 1)) ?_ (Ev.now _))
  unfold seal_Open.f
  by_cases q : i < 0
  · exact evT q (Ev.now _)
  · exact evF q (evT (by omega) (Ev.now _))
theorem ropen_out {l : List Int} {i : Int} (h : i < 0 ∨ (l.length : Int) ≤ i) : Ev (fun k => plexusref03_OpenIn.m k l i) ([], 1) := by
  refine evX (fun k => plexusref03_OpenIn.m_eq k _ _) ?_
  by_cases q : i < 0
  · exact evT (dT q) (Ev.now _)
  · exact evF (dF q) (evT (dT (by omega)) (Ev.now _))
theorem ck_both {r lf n i : Int} {p : List Int} (hp : ∀ x ∈ p, U x) (hm : p.length ≤ 1000000) (hl : U lf) : ∃ v, Ev (fun k => plexuslaw03_check.m k r (n, p) (i, lf)) v ∧ Ev (fun k => plexusref03_Check.m k r (n, p) (i, lf)) v := by
  by_cases h1 : i < 0
  · refine ⟨1, evX (fun k => plexuslaw03_check.m_eq k _ _ _) (Ev.bind (a := 1) ?_ (Ev.now _)), evX (fun k => plexusref03_Check.m_eq k _ _ _) (evT (dT h1) (Ev.now _))⟩
    unfold seal_Check.f
    exact evT h1 (Ev.step (fun k => by rw [seal_Check.j0]) (evT rfl (Ev.now _)))
  by_cases h2 : n ≤ i
  · refine ⟨1, evX (fun k => plexuslaw03_check.m_eq k _ _ _) (Ev.bind (a := 1) ?_ (Ev.now _)), evX (fun k => plexusref03_Check.m_eq k _ _ _) (evF (dF h1) (evT (dT h2) (Ev.now _)))⟩
    unfold seal_Check.f
    exact evF h1 (evT h2 (Ev.step (fun k => by rw [seal_Check.j0]) (evT rfl (Ev.now _))))
  by_cases h3 : n > 4096
  · refine ⟨1, evX (fun k => plexuslaw03_check.m_eq k _ _ _) (Ev.bind (a := 1) ?_ (Ev.now _)), evX (fun k => plexusref03_Check.m_eq k _ _ _) (evF (dF h1) (evF (dF h2) (evT (dT h3) (Ev.now _))))⟩
    unfold seal_Check.f
    exact evF h1 (evF h2 (Ev.step (fun k => by rw [seal_Check.j0]) (evT (dT h3) (Ev.now _))))
  obtain ⟨N, rfl⟩ := Int.eq_ofNat_of_zero_le (a := n) (by omega)
  obtain ⟨I, rfl⟩ := Int.eq_ofNat_of_zero_le (a := i) (by omega)
  exact ⟨_, check_e (r := r) (lf := lf) (n := N) (i := I) (p := p) (by omega) (by omega) hp hl, rck_f (by omega) (by omega) hp hm hl⟩
end Go.Proofs.YtbkjdfemamehcaaQ
