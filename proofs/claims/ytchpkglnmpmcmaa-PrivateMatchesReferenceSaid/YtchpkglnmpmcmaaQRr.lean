/- Several texts joined. -/
import Derived.Test.YtchpkglnmpmcmaaQC
import Derived.Test.YtchpkglnmpmcmaaX47R
/- Private: the reference's leaves, commitments and checks. -/
namespace Go.Proofs.YtchpkglnmpmcmaaQ
set_option linter.unusedVariables false
set_option linter.unusedSimpArgs false
open Go Go.RowKit Go.Proofs.Ytchpkglnmpmcmaa.P47 Go.Proofs.Ytchpkglnmpmcmaa.V47 Go.Proofs.YtchpkglnmpmcmaaW.PrintWords Go.Proofs.YtchpkglnmpmcmaaW.PrintLast Go.Proofs.YtchpkglnmpmcmaaW.PrintMore
theorem rat_f (x : Int × List Int) (s : Int) (hl : x.2.length ≤ 10000) {i : Nat} (hi : i ≤ x.2.length) : Ev (fun k => plexusref47_at.m k x s (i : Int)) (plc x.1 x.2 s i) := by
  refine evX (fun k => plexusref47_at.m_eq k _ _ _) ?_
  by_cases h0 : i = 0
  · subst h0
    exact evT (bT rfl) (Ev.bind (rkey_f s 0) (Ev.now _))
  · obtain ⟨j, rfl⟩ : ∃ j, i = j + 1 := ⟨i - 1, by omega⟩
    have e : plc x.1 x.2 s (j + 1) = (((j + 1 : Nat) : Int), wrap64 (x.2.getD j 0), 0, key s ((j + 1 : Nat) : Int), []) := by
      unfold plc; rw [if_neg (by omega)]; rfl
    rw [e, dec64 (by omega), wrap_i64']
    exact evF (bF (by omega)) (evT (by omega) (evT (by omega) (Ev.bind (rkey_f s _) (Ev.now _))))
theorem rleaves_l0 (x : Int × List Int) (s : Int) (hl : x.2.length ≤ 10000) : ∀ (m i : Nat), x.2.length + 1 - i = m → i ≤ x.2.length + 1 →
    Ev2 (fun n k => plexusref47_Leaves.l0 n k x s (i : Int) ((List.range i).map fun j => leaf (plc x.1 x.2 s j))) (lvs x.1 x.2 s)
  | 0, i, hm, hi => by
    refine Ev2.step (fun n k => plexusref47_Leaves.l0_succ n k _ _ _ _) ?_
    obtain rfl : i = x.2.length + 1 := by omega
    have e : ((List.range (x.2.length + 1)).map fun j => leaf (plc x.1 x.2 s j)) = lvs x.1 x.2 s := by unfold lvs plcs; rw [List.map_map]; rfl
    rw [e]
    exact ev2F (dF (by omega)) (Ev2.now _)
  | m + 1, i, hm, hi => by
    refine Ev2.step (fun n k => plexusref47_Leaves.l0_succ n k _ _ _ _) ?_
    have next := rleaves_l0 x s hl m (i + 1) (by omega) (by omega)
    rw [List.range_succ, List.map_append] at next
    rw [inc64 (by omega)]
    refine ev2T (dT (by omega)) (Ev2.bind (rat_f x s hl (i := i) (by omega)) (Ev2.bind (rleaf_f _) (ev2T (by simp; omega) ?_)))
    exact next
theorem rleaves_f (x : Int × List Int) (s : Int) (hl : x.2.length ≤ 10000) : Ev (fun k => plexusref47_Leaves.m k x s) (lvs x.1 x.2 s) := by
  refine evX (fun k => plexusref47_Leaves.m_eq k _ _) ?_
  exact (rleaves_l0 x s hl _ 0 rfl (by omega)).diag
theorem fstep_f {h w : Nat} (hh : h < 2 ^ 64) (hw : w < 2 ^ 64) : plexusref03_Step.f (h : Int) (w : Int) = some ((stepN h w : Nat) : Int) := dstep_f hh hw
theorem fjoin_f {a b : Int} (ha : U a) (hb : U b) : plexusref03_Join.f a b = some (jn a b) := by
  obtain ⟨A, rfl, hA⟩ := ha.nat
  obtain ⟨B, rfl, hB⟩ := hb.nat
  unfold plexusref03_Join.f jn
  rw [show (1785686382 : Int) = ((1785686382 : Nat) : Int) from rfl, fstep_f (by decide) hA]
  simp only [Option.bind_some, Int.toNat_natCast]
  rw [fstep_f (stepN_lt _ _) hB]; rfl
theorem rhalf_l0 {n : Nat} (hn : n ≤ 65536) : ∀ (m a : Nat), n - 2 ^ a ≤ m → 2 ^ a < n → Ev (fun k => plexusref03_Half.l0 k (n : Int) ((2 ^ a : Nat) : Int)) ((halfN n : Nat) : Int)
  | 0, a, hm, h => by omega
  | m + 1, a, hm, h => by
    refine Ev.step (fun k => by rw [plexusref03_Half.l0]) ?_
    have hp : 1 ≤ 2 ^ a := Nat.one_le_two_pow
    have hs : 2 ^ (a + 1) = 2 * 2 ^ a := by rw [Nat.pow_succ, Nat.mul_comm]
    by_cases h2 : 2 ^ (a + 1) < n
    · have ih := rhalf_l0 hn m (a + 1) (by omega) h2
      rw [hs] at ih h2
      generalize 2 ^ a = z at *
      have e : wrap64 (2 * (z : Int)) = ((2 * z : Nat) : Int) := by rw [w64 (by omega) (by omega)]; omega
      rw [e]
      exact evT (by omega) ih
    · have e1 : halfN n = 2 ^ a := by
        unfold halfN
        rw [(Nat.log2_eq_iff (n := n - 1) (k := a) (by omega)).2 ⟨by omega, by omega⟩]
      rw [e1]
      rw [hs] at h2
      generalize 2 ^ a = z at *
      have e : wrap64 (2 * (z : Int)) = ((2 * z : Nat) : Int) := by rw [w64 (by omega) (by omega)]; omega
      rw [e]
      exact evF (by omega) (Ev.now _)
theorem rhalf_f {n : Nat} (h2 : 2 ≤ n) (hn : n ≤ 65536) : Ev (fun k => plexusref03_Half.f k (n : Int)) ((halfN n : Nat) : Int) := by
  unfold plexusref03_Half.f
  exact rhalf_l0 hn n 0 (by omega) (by omega)
theorem rsides_f : ∀ (n i : Nat), i < n → n ≤ 65536 → Ev (fun k => plexusref03_Sides.f k (n : Int) (i : Int)) (sides n i) := by
  intro n
  induction n using Nat.strongRecOn with
  | ind n ih =>
    intro i hi hm
    refine Ev.step (fun k => by rw [plexusref03_Sides.f]) ?_
    by_cases h : n ≤ 1
    · rw [sides_one h]
      exact evT (by omega) (Ev.now _)
    · have h2 := halfN_lt (n := n) (by omega)
      have h3 := halfN_pos n
      refine evF (by omega) ?_
      refine Ev.bind (rhalf_f (by omega) hm) ?_
      by_cases hk : i < halfN n
      · rw [sides_l h hk]
        refine evT (by omega) ?_
        refine Ev.bind (ih (halfN n) (by omega) i hk (by omega)) ?_
        have := sides_le (halfN n) (by omega) i
        exact evT (by omega) (Ev.now _)
      · rw [sides_r h hk]
        refine evF (by omega) ?_
        rw [w64 (x := (n : Int) - _) (by omega) (by omega), w64 (x := (i : Int) - _) (by omega) (by omega), show (n : Int) - (halfN n : Nat) = ((n - halfN n : Nat) : Int) by omega, show (i : Int) - (halfN n : Nat) = ((i - halfN n : Nat) : Int) by omega]
        refine Ev.bind (ih (n - halfN n) (by omega) (i - halfN n) (by omega) (by omega)) ?_
        have := sides_le (n - halfN n) (by omega) (i - halfN n)
        exact evT (by omega) (Ev.now _)
theorem rroot_f : ∀ (n : Nat) (l : List Int), l.length = n → 1 ≤ n → n ≤ 65536 → (∀ x ∈ l, U x) → Ev (fun k => plexusref03_Root.f k l) (root 0 l) := by
  intro n
  induction n using Nat.strongRecOn with
  | ind n ih =>
    intro l hn h1 hm hl
    refine Ev.step (fun k => by rw [plexusref03_Root.f]) ?_
    simp only [hn]
    refine evF (by omega) ?_
    by_cases h : n ≤ 1
    · obtain rfl : n = 1 := by omega
      match l, hn with
      | [a], _ => rw [root_one]; exact evT (by omega) (evT (by omega) (Ev.now _))
    · have h2 := halfN_lt (n := n) (by omega)
      have h3 := halfN_pos n
      refine evF (by omega) ?_
      refine Ev.bind (rhalf_f (by omega) hm) ?_
      rw [root_big hn h]
      simp only [Int.toNat_natCast]
      refine evT (by omega) (evT (by omega) ?_)
      refine Ev.bind (ih (halfN n) (by omega) _ (by simp; omega) (by omega) (by omega) (take_U hl _)) ?_
      refine Ev.bind (ih (n - halfN n) (by omega) _ (by simp; omega) (by omega) (by omega) (drop_U hl _)) ?_
      rw [fjoin_f (root_U 0 U0 _ _ rfl (take_U hl _)) (root_U 0 U0 _ _ rfl (drop_U hl _))]
      exact Ev.now _
theorem rpath_f : ∀ (n : Nat) (l : List Int) (i : Nat), l.length = n → i < n → n ≤ 65536 → (∀ x ∈ l, U x) → Ev (fun k => plexusref03_path.f k l (i : Int)) (path 0 l i) := by
  intro n
  induction n using Nat.strongRecOn with
  | ind n ih =>
    intro l i hn hi hm hl
    refine Ev.step (fun k => by rw [plexusref03_path.f]) ?_
    simp only [hn]
    by_cases h : n ≤ 1
    · obtain rfl : n = 1 := by omega
      rw [path_one (by omega)]
      exact evT rfl (Ev.now _)
    · have h2 := halfN_lt (n := n) (by omega)
      have h3 := halfN_pos n
      refine evF (by omega) ?_
      refine Ev.bind (rhalf_f (by omega) hm) ?_
      simp only [Int.toNat_natCast]
      have hp1 := path_le 0 (halfN n) (l.take (halfN n)) (by simp; omega) (by omega) i
      have hp2 := path_le 0 (n - halfN n) (l.drop (halfN n)) (by simp; omega) (by omega) (i - halfN n)
      by_cases hk : i < halfN n
      · rw [path_l hn h hk]
        refine evT (by omega) (evT (by omega) (evT (by omega) ?_))
        refine Ev.bind (ih (halfN n) (by omega) (l.take (halfN n)) i (by simp; omega) hk (by omega) (take_U hl _)) ?_
        refine Ev.bind (rroot_f (n - halfN n) (l.drop (halfN n)) (by simp; omega) (by omega) (by omega) (drop_U hl _)) ?_
        exact evT (by omega) (Ev.now _)
      · rw [path_r hn h hk]
        refine evF (by omega) (evT (by omega) (evT (by omega) ?_))
        rw [show (i : Int) - (halfN n : Nat) = ((i - halfN n : Nat) : Int) by omega, w64 (x := ((i - halfN n : Nat) : Int)) (by omega) (by omega)]
        refine Ev.bind (ih (n - halfN n) (by omega) (l.drop (halfN n)) (i - halfN n) (by simp; omega) (by omega) (by omega) (drop_U hl _)) ?_
        refine Ev.bind (rroot_f (halfN n) (l.take (halfN n)) (by simp; omega) (by omega) (by omega) (take_U hl _)) ?_
        exact evT (by omega) (Ev.now _)
theorem rcommit_f (x : Int × List Int) (s : Int) (hl : x.2.length ≤ 10000) : Ev (fun k => plexusref47_Commit.m k x s) (cmt x.1 x.2 s) := by
  refine evX (fun k => plexusref47_Commit.m_eq k x s) ?_
  exact Ev.bind (rleaves_f x s hl) (Ev.bind (rroot_f _ _ rfl (by rw [lvs_len]; omega) (by rw [lvs_len]; omega) (lvs_U _ _ _)) (Ev.now _))
theorem ropen_f {l : List Int} {i : Nat} (hi : i < l.length) (hm : l.length ≤ 65536) (hl : ∀ x ∈ l, U x) : Ev (fun k => plexusref03_OpenIn.m k l (i : Int)) (path 0 l i, 0) := by
  refine evX (fun k => plexusref03_OpenIn.m_eq k _ _) ?_
  exact evF (dF (by omega)) (evF (dF (by omega)) (Ev.bind (rpath_f l.length l i rfl hi hm hl) (Ev.now _)))
theorem rshow_f (x : Int × List Int) (s : Int) (hl : x.2.length ≤ 10000) {i : Nat} (hi : i ≤ x.2.length) : Ev (fun k => plexusref47_ShowIn.m k x s (i : Int)) (opn x.1 x.2 s i, 0) := by
  refine evX (fun k => plexusref47_ShowIn.m_eq k _ _ _) ?_
  refine evF (dF (by omega)) (evF (dF (by omega)) (Ev.bind (rat_f x s hl hi) (Ev.bind (rleaves_f x s hl) (Ev.bind (ropen_f (i := i) (by rw [lvs_len]; omega) (by rw [lvs_len]; omega) (lvs_U _ _ _)) (Ev.now _)))))
theorem rshow_arg (x : Int × List Int) (s i : Int) (h : i < 0 ∨ (x.2.length : Int) < i) : Ev (fun k => plexusref47_ShowIn.m k x s i) ((0, 0, 0, 0, []), 1) := by
  refine evX (fun k => plexusref47_ShowIn.m_eq k _ _ _) ?_
  by_cases h0 : i < 0
  · exact evT (dT h0) (Ev.now _)
  · exact evF (dF h0) (evT (dT (by omega)) (Ev.now _))
theorem rjoin_m {a b : Int} (ha : U a) (hb : U b) : Ev (fun k => plexusref03_Join.m k a b) (jn a b) := by
  obtain ⟨A, rfl, hA⟩ := ha.nat
  obtain ⟨B, rfl, hB⟩ := hb.nat
  refine evX (fun k => plexusref03_Join.m_eq k _ _) ?_
  refine Ev.bind (a := ((stepN 1785686382 A : Nat) : Int)) ⟨0, fun k _ => r3step k (by decide) hA⟩ (Ev.bind (a := jn (A : Int) (B : Int)) ⟨0, fun k _ => ?_⟩ (Ev.now _))
  unfold jn
  rw [Int.toNat_natCast, Int.toNat_natCast]
  exact r3step k (stepN_lt _ _) hB
theorem rup_m {a b : Int} {s : Bool} (ha : U a) (hb : U b) : Ev (fun k => plexusref03_Up.m k a b s) (up a b s) := by
  refine evX (fun k => plexusref03_Up.m_eq k _ _ _) ?_
  unfold up
  cases s with
  | true => exact evT rfl (Ev.bind (rjoin_m ha hb) (Ev.now _))
  | false => exact evF (by decide) (Ev.bind (rjoin_m hb ha) (Ev.now _))
theorem rck_l0 (r : Int) (n : Int) (p : List Int) (S : List Bool) (hS : S.length = p.length) (hm : p.length ≤ 1000000) (hp : ∀ x ∈ p, U x) : ∀ (m j : Nat) (h : Int), p.length - j = m → U h →
    Ev2 (fun a k => plexusref03_Check.l0 a k r (n, p) S h (j : Int)) (if fold h (p.drop j) (S.drop j) = r then 0 else 6)
  | 0, j, h, hj, hu => by
    refine Ev2.step (fun a k => plexusref03_Check.l0_succ a k _ _ _ _ _) ?_
    rw [List.drop_of_length_le (l := p) (by omega), List.drop_of_length_le (l := S) (by omega)]
    refine ev2F (dF (by omega)) ?_
    by_cases q : h = r
    · rw [if_pos (show fold h [] [] = r from q)]
      exact ev2F (nF q) (Ev2.now _)
    · rw [if_neg (show ¬ fold h [] [] = r from q)]
      exact ev2T (nT q) (Ev2.now _)
  | m + 1, j, h, hj, hu => by
    have hlt : j < p.length := by omega
    have hltS : j < S.length := by omega
    refine Ev2.step (fun a k => plexusref03_Check.l0_succ a k _ _ _ _ _) ?_
    have g1 : List.getD p (Int.toNat (j : Int)) (Int.ofNat 0) = p[j] := getD_get hlt
    have g2 : List.getD S (Int.toNat (j : Int)) false = S[j] := by rw [Int.toNat_natCast, List.getD_eq_getElem?_getD, List.getElem?_eq_getElem hltS]; rfl
    have hpj := hp _ (List.getElem_mem hlt)
    refine ev2T (dT (by omega)) (ev2T (by omega) (ev2T (by show (j : Int) < (p.length : Int); omega) (ev2T (by omega) (ev2T (by omega) ?_))))
    simp only [g1, g2]
    refine Ev2.bind (rup_m hu hpj) ?_
    rw [inc64 (by omega), List.drop_eq_getElem_cons hlt, List.drop_eq_getElem_cons hltS]
    exact rck_l0 r n p S hS hm hp m (j + 1) _ (by omega) (up_U _ _ _)
theorem rck_f {r lf : Int} {n i : Nat} {p : List Int} (hi : i < n) (hn : n ≤ 4096) (hp : ∀ x ∈ p, U x) (hm : p.length ≤ 1000000) (hl : U lf) :
    Ev (fun k => plexusref03_Check.m k r ((n : Int), p) ((i : Int), lf)) (if (sides n i).length = p.length then (if fold lf p (sides n i) = r then 0 else 6) else 6) := by
  refine evX (fun k => plexusref03_Check.m_eq k _ _ _) ?_
  refine evF (dF (by show ¬ ((i : Int) < 0); omega)) (evF (dF (by show ¬ ((i : Int) ≥ (n : Int)); omega)) (evF (dF (by show ¬ ((n : Int) > 4096); omega)) (Ev.bind (rsides_f n i hi (by omega)) ?_)))
  by_cases q : (sides n i).length = p.length
  · rw [if_pos q]
    refine evF (nF (by show ((sides n i).length : Int) = (p.length : Int); omega)) ?_
    exact (rck_l0 r n p (sides n i) q hm hp p.length 0 lf (by omega) hl).diag
  · rw [if_neg q]
    exact evT (nT (by show ((sides n i).length : Int) ≠ (p.length : Int); omega)) (Ev.now _)
def pc (r n : Int) (o : OT) : Int := if n < 0 ∨ 64 < n ∨ o.1 < 0 ∨ n < o.1 then 1 else chk r n.toNat o.1.toNat o
def Good (o : OT) : Prop := (∀ x ∈ o.2.2.2.2, U x) ∧ o.2.2.2.2.length ≤ 100000
theorem pc_f {r n : Int} {o : OT} (hg : Good o) : Ev (fun k => private_Check.m k r n o) (pc r n o) := by
  unfold pc
  by_cases h : n < 0 ∨ 64 < n ∨ o.1 < 0 ∨ n < o.1
  · rw [if_pos h]; exact pcheck_arg h
  · rw [if_neg h]
    obtain ⟨N, rfl⟩ := Int.eq_ofNat_of_zero_le (a := n) (by omega)
    rw [Int.toNat_natCast]
    exact pcheck_f (i := o.1.toNat) (by omega) (by omega) (by omega) hg.1
theorem rchk_f {r : Int} {n i : Nat} {o : OT} (hn : n ≤ 64) (hi : i ≤ n) (ho : o.1 = i) (hg : Good o) : Ev (fun k => plexusref47_Check.m k r n o) (chk r n i o) := by
  have hck : Ev (fun k => plexusref03_Check.m k r (IntKind.wrap IntKind.i64 ((n : Int) + 1), o.2.2.2.2) (o.1, leaf o)) (if (sides (n + 1) i).length = o.2.2.2.2.length then (if fold (leaf o) o.2.2.2.2 (sides (n + 1) i) = r then 0 else 6) else 6) := by
    have h := rck_f (r := r) (lf := leaf o) (n := n + 1) (i := i) (p := o.2.2.2.2) (by omega) (by omega) hg.1 (Nat.le_trans hg.2 (by decide)) (leaf_U o)
    have e1 : IntKind.wrap IntKind.i64 ((n : Int) + 1) = ((n + 1 : Nat) : Int) := by rw [wrap_i64', w64 (by omega) (by omega)]; omega
    rw [e1, ho]; exact h
  have tail : o.2.2.1 = (if i = 0 then (n : Int) else 0) → Ev (fun k => Option.bind (plexusref47_Leaf.m k o) fun r1 => Option.bind (plexusref03_Check.m k r (IntKind.wrap IntKind.i64 ((n : Int) + 1), o.2.2.2.2) (o.1, r1)) fun r2 => if (r2 != 0) = true then some 470 else some 0) (chk r n i o) := fun hb => by
    refine Ev.bind (rleaf_f o) (Ev.bind hck ?_)
    unfold chk
    rw [if_pos hb]
    by_cases q : (sides (n + 1) i).length = o.2.2.2.2.length
    · by_cases q2 : fold (leaf o) o.2.2.2.2 (sides (n + 1) i) = r
      · simp only [q, q2, if_true]; exact evF (nF rfl) (Ev.now _)
      · simp only [q, q2, if_true, if_false]; exact evT (nT (by decide)) (Ev.now _)
    · simp only [q, if_false]; exact evT (nT (by decide)) (Ev.now _)
  have bad : ¬ o.2.2.1 = (if i = 0 then (n : Int) else 0) → chk r n i o = 470 := chk_b
  refine evX (fun k => plexusref47_Check.m_eq k _ _ _) ?_
  refine evF (dF (by omega)) (evF (dF (by omega)) (evF (dF (by omega)) (evF (dF (by omega)) ?_)))
  by_cases h0 : i = 0
  · rw [if_pos h0] at tail bad
    refine evT (bT (by omega)) ?_
    by_cases hb : o.2.2.1 = (n : Int)
    · exact evF (nF hb) (evF (dF (by omega)) (tail hb))
    · rw [bad hb]; exact evT (nT hb) (Ev.now _)
  · rw [if_neg h0] at tail bad
    refine evF (bF (by omega)) (evT (dT (by omega)) ?_)
    by_cases hb : o.2.2.1 = 0
    · exact evF (nF hb) (tail hb)
    · rw [bad hb]; exact evT (nT hb) (Ev.now _)
theorem rpc_f {r n : Int} {o : OT} (hg : Good o) : Ev (fun k => plexusref47_Check.m k r n o) (pc r n o) := by
  unfold pc
  by_cases h : n < 0 ∨ 64 < n ∨ o.1 < 0 ∨ n < o.1
  · rw [if_pos h]
    refine evX (fun k => plexusref47_Check.m_eq k _ _ _) ?_
    by_cases h1 : n < 0
    · exact evT (dT h1) (Ev.now _)
    refine evF (dF h1) ?_
    by_cases h2 : n > 64
    · exact evT (dT h2) (Ev.now _)
    refine evF (dF h2) ?_
    by_cases h3 : o.1 < 0
    · exact evT (dT h3) (Ev.now _)
    exact evF (dF h3) (evT (dT (by omega)) (Ev.now _))
  · rw [if_neg h]
    obtain ⟨N, rfl⟩ := Int.eq_ofNat_of_zero_le (a := n) (by omega)
    rw [Int.toNat_natCast]
    exact rchk_f (i := o.1.toNat) (by omega) (by omega) (by omega) hg
end Go.Proofs.YtchpkglnmpmcmaaQ
namespace Go.Proofs.YtchpkglnmpmcmaaQ
set_option linter.unusedVariables false
set_option linter.unusedSimpArgs false
open Go Go.RowKit Go.Proofs.Ytchpkglnmpmcmaa.P47 Go.Proofs.Ytchpkglnmpmcmaa.V47 Go.Proofs.YtchpkglnmpmcmaaW.PrintWords Go.Proofs.YtchpkglnmpmcmaaW.PrintLast Go.Proofs.YtchpkglnmpmcmaaW.PrintMore
theorem gD {l : List Int} (i : Nat) : List.getD l (Int.toNat (i : Int)) (Int.ofNat 0) = l.getD i 0 := rfl
theorem getD_U' {l : List Int} (hl : ∀ y ∈ l, U y) (j : Nat) : U (l.getD j 0) := by
  rw [List.getD_eq_getElem?_getD]
  by_cases h : j < l.length
  · rw [List.getElem?_eq_getElem h]; exact hl _ (List.getElem_mem h)
  · rw [List.getElem?_eq_none (by omega)]; exact U0
theorem iss_l0 {l : List Int} (hl : l.length ≤ 1000) : ∀ (i : Nat), i < l.length → ∃ b, Ev2 (fun n k => slices_IsSorted_uint64_uint64.l0 n k l (i : Int)) b ∧ (b = true ↔ ∀ j, j < i → l.getD j 0 ≤ l.getD (j + 1) 0)
  | 0, hi => ⟨true, Ev2.step (fun n k => slices_IsSorted_uint64_uint64.l0_succ n k _ _) (ev2F (dF (by omega)) (Ev2.now _)), by simp⟩
  | i + 1, hi => by
    obtain ⟨b, h1, h2⟩ := iss_l0 hl i (by omega)
    by_cases hlt : l.getD (i + 1) 0 < l.getD i 0
    · refine ⟨false, Ev2.step (fun n k => slices_IsSorted_uint64_uint64.l0_succ n k _ _) ?_, ?_⟩
      · rw [dec64 (by omega)]
        refine ev2T (dT (by omega)) (ev2T (by omega) (ev2T (by omega) (ev2T (by omega) (ev2T (by omega) (Ev2.bind (a := true) ⟨0, fun k _ => ?_⟩ (ev2T rfl (Ev2.now _)))))))
        exact (less_f k _ _).trans (congrArg some (decide_eq_true hlt))
      · constructor
        · intro h; cases h
        · intro h; have := h i (by omega); omega
    · refine ⟨b, Ev2.step (fun n k => slices_IsSorted_uint64_uint64.l0_succ n k _ _) ?_, ?_⟩
      · rw [dec64 (by omega)]
        refine ev2T (dT (by omega)) (ev2T (by omega) (ev2T (by omega) (ev2T (by omega) (ev2T (by omega) (Ev2.bind (a := false) ⟨0, fun k _ => ?_⟩ (ev2F (by decide) h1))))))
        exact (less_f k _ _).trans (congrArg some (decide_eq_false hlt))
      · rw [h2]
        constructor
        · intro h j hj
          by_cases e : j = i
          · subst e; omega
          · exact h j (by omega)
        · intro h j hj; exact h j (by omega)
theorem iss_f {l : List Int} (hl : l.length ≤ 1000) : ∃ b, Ev (fun k => slices_IsSorted_uint64_uint64.m k l) b ∧ (b = true ↔ ∀ j, j + 1 < l.length → l.getD j 0 ≤ l.getD (j + 1) 0) := by
  by_cases h : l.length = 0
  · refine ⟨true, evX (fun k => slices_IsSorted_uint64_uint64.m_eq k _) ?_, ?_⟩
    · have e : IntKind.wrap IntKind.i64 ((l.length : Int) - 1) = -1 := by rw [h, wrap_i64', w64 (by omega) (by omega)]; rfl
      rw [e]
      have : Ev2 (fun n k => slices_IsSorted_uint64_uint64.l0 n k l (-1)) true := Ev2.step (fun n k => slices_IsSorted_uint64_uint64.l0_succ n k _ _) (ev2F (dF (by omega)) (Ev2.now _))
      exact this.diag
    · exact ⟨fun _ j hj => by omega, fun _ => rfl⟩
  · obtain ⟨b, h1, h2⟩ := iss_l0 hl (l.length - 1) (by omega)
    refine ⟨b, evX (fun k => slices_IsSorted_uint64_uint64.m_eq k _) ?_, ?_⟩
    · have e : IntKind.wrap IntKind.i64 ((l.length : Int) - 1) = ((l.length - 1 : Nat) : Int) := by rw [wrap_i64', w64 (by omega) (by omega)]; omega
      rw [e]
      exact h1.diag
    · rw [h2]
      exact ⟨fun h j hj => h j (by omega), fun h j hj => h j (by omega)⟩
theorem shr_zero {x : Int} (hx : U x) {v : Nat} (hv : v ≤ 16) : Go.Vx.shF BinOp.shr IntKind.u64 x (IntKind.wrap IntKind.u64 (v : Int)) = 0 ↔ x < ((2 ^ v : Nat) : Int) := by
  have e : IntKind.wrap IntKind.u64 (v : Int) = (v : Int) := by rw [u64_wrap]; omega
  rw [e]
  show x.fdiv (2 ^ min (Int.toNat (v : Int)) IntKind.u64.bits) = 0 ↔ _
  have hm : min (Int.toNat (v : Int)) IntKind.u64.bits = v := by
    rw [Int.toNat_natCast]; show min v 64 = v; omega
  rw [hm, show (2 : Int) ^ v = ((2 ^ v : Nat) : Int) by simp]
  obtain ⟨n, rfl, _⟩ := hx.nat
  rw [Int.fdiv_eq_ediv_of_nonneg _ (Int.natCast_nonneg _)]
  have hp := Nat.two_pow_pos v
  generalize 2 ^ v = P at hp
  have : ((n : Int) / (P : Int)) = ((n / P : Nat) : Int) := by simp
  rw [this]
  constructor
  · intro h
    have h3 : n / P = 0 := by omega
    rcases (Nat.div_eq_zero_iff).1 h3 with q | q
    · omega
    · omega
  · intro h
    have : n / P = 0 := Nat.div_eq_of_lt (by omega)
    omega
theorem rv_l0 {v : Nat} (hv : v ≤ 16) {l : List Int} (hU : ∀ b ∈ l, U b) (hl : l.length ≤ 1000) : ∀ (m i : Nat), l.length - i = m → i ≤ l.length →
    ∃ b, Ev2 (fun n k => plexusref06_Valid.l0 n k ((v : Int), l) (i : Int)) b ∧ (b = true ↔ ∀ j, i ≤ j → j < l.length → l.getD j 0 < ((2 ^ v : Nat) : Int) ∧ (0 < j → l.getD (j - 1) 0 ≤ l.getD j 0))
  | 0, i, hm, hi => ⟨true, Ev2.step (fun n k => plexusref06_Valid.l0_succ n k _ _) (ev2F (dF (by show ¬ ((i : Int) < (l.length : Int)); omega)) (Ev2.now _)), ⟨fun _ j h1 h2 => by omega, fun _ => rfl⟩⟩
  | m + 1, i, hm, hi => by
    obtain ⟨b, h1, h2⟩ := rv_l0 hv hU hl m (i + 1) (by omega) (by omega)
    have hlt : i < l.length := by omega
    have hu := getD_U' hU i
    have hs := shr_zero hu hv
    have hne0 : ¬ (IntKind.wrap IntKind.u64 ((v : Int), l).1 < 0) := by rw [u64_wrap]; show ¬ ((v : Int) % 18446744073709551616 < 0); omega
    have split : (∀ j, i ≤ j → j < l.length → l.getD j 0 < ((2 ^ v : Nat) : Int) ∧ (0 < j → l.getD (j - 1) 0 ≤ l.getD j 0)) ↔ (l.getD i 0 < ((2 ^ v : Nat) : Int) ∧ (0 < i → l.getD (i - 1) 0 ≤ l.getD i 0)) ∧ ∀ j, i + 1 ≤ j → j < l.length → l.getD j 0 < ((2 ^ v : Nat) : Int) ∧ (0 < j → l.getD (j - 1) 0 ≤ l.getD j 0) := by
      constructor
      · intro h; exact ⟨h i (Nat.le_refl _) hlt, fun j h1 h2 => h j (by omega) h2⟩
      · rintro ⟨p, q⟩ j h1 h2
        by_cases e : j = i
        · subst e; exact p
        · exact q j (by omega) h2
    rw [split, ← h2]
    by_cases q1 : l.getD i 0 < ((2 ^ v : Nat) : Int)
    · by_cases h0 : 0 < i
      · have e : IntKind.wrap IntKind.i64 ((i : Int) - 1) = ((i - 1 : Nat) : Int) := by rw [wrap_i64', w64 (by omega) (by omega)]; omega
        by_cases q2 : l.getD (i - 1) 0 ≤ l.getD i 0
        · refine ⟨b, Ev2.step (fun n k => plexusref06_Valid.l0_succ n k _ _) ?_, ⟨fun h => ⟨⟨q1, fun _ => q2⟩, h⟩, fun h => h.2⟩⟩
          refine ev2T (dT (by show (i : Int) < (l.length : Int); omega)) (ev2T (by omega) (ev2T (by show (i : Int) < (l.length : Int); omega) (ev2F hne0 (ev2F (nF (hs.2 q1)) (ev2T (dT (by omega)) ?_)))))
          rw [e]
          refine ev2T (by omega) (ev2T (by show ((i - 1 : Nat) : Int) < (l.length : Int); omega) (ev2T (by omega) (ev2T (by show (i : Int) < (l.length : Int); omega) (ev2F (dF ?_) ?_))))
          · show ¬ (l.getD (i - 1) 0 > l.getD i 0)
            omega
          · rw [inc64 (by omega)]; exact h1
        · refine ⟨false, Ev2.step (fun n k => plexusref06_Valid.l0_succ n k _ _) ?_, ⟨fun h => (by cases h), fun h => absurd (h.1.2 h0) q2⟩⟩
          refine ev2T (dT (by show (i : Int) < (l.length : Int); omega)) (ev2T (by omega) (ev2T (by show (i : Int) < (l.length : Int); omega) (ev2F hne0 (ev2F (nF (hs.2 q1)) (ev2T (dT (by omega)) ?_)))))
          rw [e]
          refine ev2T (by omega) (ev2T (by show ((i - 1 : Nat) : Int) < (l.length : Int); omega) (ev2T (by omega) (ev2T (by show (i : Int) < (l.length : Int); omega) (ev2T (dT ?_) (Ev2.now _)))))
          show l.getD (i - 1) 0 > l.getD i 0
          omega
      · refine ⟨b, Ev2.step (fun n k => plexusref06_Valid.l0_succ n k _ _) ?_, ⟨fun h => ⟨⟨q1, fun h => absurd h h0⟩, h⟩, fun h => h.2⟩⟩
        refine ev2T (dT (by show (i : Int) < (l.length : Int); omega)) (ev2T (by omega) (ev2T (by show (i : Int) < (l.length : Int); omega) (ev2F hne0 (ev2F (nF (hs.2 q1)) (ev2F (dF (by omega)) ?_)))))
        rw [inc64 (by omega)]; exact h1
    · refine ⟨false, Ev2.step (fun n k => plexusref06_Valid.l0_succ n k _ _) ?_, ⟨fun h => (by cases h), fun h => absurd h.1.1 q1⟩⟩
      exact ev2T (dT (by show (i : Int) < (l.length : Int); omega)) (ev2T (by omega) (ev2T (by show (i : Int) < (l.length : Int); omega) (ev2F hne0 (ev2T (nT (fun h => q1 (hs.1 h))) (Ev2.now _)))))
theorem chain_le {l : List Int} (h : ∀ j, j + 1 < l.length → l.getD j 0 ≤ l.getD (j + 1) 0) (i : Nat) : ∀ j, i ≤ j → j < l.length → l.getD i 0 ≤ l.getD j 0
  | 0, hi, hj => by
    obtain rfl : i = 0 := by omega
    exact Int.le_refl _
  | j + 1, hi, hj => by
    by_cases e : i = j + 1
    · subst e; exact Int.le_refl _
    · exact Int.le_trans (chain_le h i j (by omega) (by omega)) (h j hj)
theorem valid_both (x : Int × List Int) (hU : ∀ b ∈ x.2, U b) (hl : x.2.length ≤ 1000) : ∃ b, Ev (fun k => incidence_Valid.m k x) b ∧ Ev (fun k => plexusref06_Valid.m k x) b := by
  obtain ⟨xv, l⟩ := x
  have hl : l.length ≤ 1000 := hl
  have hU : ∀ b ∈ l, U b := hU
  by_cases h1 : xv < 1
  · exact ⟨false, evX (fun k => incidence_Valid.m_eq k _) (evT (dT h1) (Ev.now _)), evX (fun k => plexusref06_Valid.m_eq k _) (evT (dT h1) (Ev.now _))⟩
  by_cases h2 : xv > 16
  · exact ⟨false, evX (fun k => incidence_Valid.m_eq k _) (evF (dF h1) (evT (dT h2) (Ev.now _))), evX (fun k => plexusref06_Valid.m_eq k _) (evF (dF h1) (evT (dT h2) (Ev.now _)))⟩
  by_cases h3 : (l.length : Int) > 64
  · exact ⟨false, evX (fun k => incidence_Valid.m_eq k _) (evF (dF h1) (evF (dF h2) (evT (dT h3) (Ev.now _)))), evX (fun k => plexusref06_Valid.m_eq k _) (evF (dF h1) (evF (dF h2) (evT (dT h3) (Ev.now _))))⟩
  obtain ⟨v, rfl⟩ := Int.eq_ofNat_of_zero_le (a := xv) (by omega)
  obtain ⟨b1, e1, f1⟩ := iss_f (l := l) hl
  obtain ⟨b2, e2, f2⟩ := rv_l0 (v := v) (by omega) (l := l) hU hl l.length 0 (by omega) (by omega)
  have r2 : Ev (fun k => plexusref06_Valid.m k ((v : Int), l)) b2 := evX (fun k => plexusref06_Valid.m_eq k _) (evF (dF h1) (evF (dF h2) (evF (dF h3) e2.diag)))
  refine ⟨b2, ?_, r2⟩
  refine evX (fun k => incidence_Valid.m_eq k _) (evF (dF h1) (evF (dF h2) (evF (dF h3) (Ev.bind e1 ?_))))
  cases b1 with
  | false =>
    have hb2 : b2 = false := by
      cases b2 with
      | false => rfl
      | true =>
        have := f1.2 fun j hj => by
          have hj : j + 1 < l.length := hj
          have := (f2.1 rfl (j + 1) (by omega) hj).2 (by omega)
          exact this
        cases this
    rw [hb2]
    exact evT rfl (Ev.now _)
  | true =>
    refine evF (by decide) ?_
    have hs := f1.1 rfl
    by_cases h0 : l.length = 0
    · have hb2 : b2 = true := f2.2 fun j _ hj => by omega
      rw [hb2]
      exact evT (bT (by show (l.length : Int) = 0; omega)) (Ev.now _)
    · refine evF (bF (by show (l.length : Int) ≠ 0; omega)) ?_
      have e : IntKind.wrap IntKind.i64 ((l.length : Int) - 1) = ((l.length - 1 : Nat) : Int) := by rw [wrap_i64', w64 (by omega) (by omega)]; omega
      show Ev (fun k => _) b2
      simp only [e]
      refine evT (by omega) (evT (by omega) (Ev.bind ⟨0, fun k _ => full_f k (v := v) (by omega)⟩ ?_))
      have key : decide (l.getD (l.length - 1) 0 ≤ ((2 ^ v - 1 : Nat) : Int)) = b2 := by
        have hp := Nat.two_pow_pos v
        rw [Bool.eq_iff_iff, decide_eq_true_eq, f2]
        constructor
        · intro h j _ hj
          refine ⟨?_, fun h0 => by have := hs (j - 1) (by omega); rwa [Nat.sub_add_cancel h0] at this⟩
          have := chain_le hs j (l.length - 1) (by omega) (by omega)
          generalize 2 ^ v = P at *
          omega
        · intro h
          have := (h (l.length - 1) (by omega) (by omega)).1
          generalize 2 ^ v = P at *
          omega
      rw [← key]
      exact Ev.now _
end Go.Proofs.YtchpkglnmpmcmaaQ
namespace Go.Proofs.YtchpkglnmpmcmaaQ
set_option linter.unusedVariables false
set_option linter.unusedSimpArgs false
set_option linter.unusedSectionVars false
open Go Go.RowKit Go.Proofs.Ytchpkglnmpmcmaa.P47 Go.Proofs.Ytchpkglnmpmcmaa.V47 Go.Proofs.YtchpkglnmpmcmaaW.PrintWords Go.Proofs.YtchpkglnmpmcmaaW.PrintLast Go.Proofs.YtchpkglnmpmcmaaW.PrintMore
open Go.Vx (mget mset)
def Ev3 {α : Type} (g : Nat → Nat → Nat → Option α) (r : α) : Prop := ∃ K, ∀ n m k, K ≤ n → K ≤ m → K ≤ k → g n m k = some r
theorem Ev3.of2 {α : Type} {g : Nat → Nat → Option α} {r : α} (h : Ev2 g r) : Ev3 (fun _ m k => g m k) r := by
  obtain ⟨K, h⟩ := h
  exact ⟨K, fun n m k _ hm hk => h m k hm hk⟩
theorem Ev3.now {α : Type} (r : α) : Ev3 (fun _ _ _ => some r) r := ⟨0, fun _ _ _ _ _ _ => rfl⟩
theorem Ev3.diag {α : Type} {g : Nat → Nat → Nat → Option α} {r : α} (h : Ev3 g r) : Ev2 (fun m k => g k m k) r := by
  obtain ⟨K, h⟩ := h
  exact ⟨K, fun m k hm hk => h k m k hk hm hk⟩
theorem Ev3.step {α : Type} {g f : Nat → Nat → Nat → Option α} {r : α} (h : ∀ n m k, g (n + 1) m k = f n m k) (q : Ev3 f r) : Ev3 g r := by
  obtain ⟨K, q⟩ := q
  refine ⟨K + 1, fun n m k hn hm hk => ?_⟩
  obtain ⟨z, rfl⟩ : ∃ z, n = z + 1 := ⟨n - 1, by omega⟩
  rw [h]
  exact q z m k (by omega) (by omega) (by omega)
theorem Ev3.congr {α : Type} {g f : Nat → Nat → Nat → Option α} {r : α} (h : ∀ n m k, g n m k = f n m k) (q : Ev3 f r) : Ev3 g r := by
  obtain ⟨K, q⟩ := q
  exact ⟨K, fun n m k hn hm hk => by rw [h]; exact q n m k hn hm hk⟩
theorem ev3T {α : Type} {c : Prop} [Decidable c] {f g : Nat → Nat → Nat → Option α} {r : α} (h : c) (q : Ev3 f r) : Ev3 (fun n m k => if c then f n m k else g n m k) r := q.congr fun n m k => if_pos h
theorem ev3F {α : Type} {c : Prop} [Decidable c] {f g : Nat → Nat → Nat → Option α} {r : α} (h : ¬ c) (q : Ev3 g r) : Ev3 (fun n m k => if c then f n m k else g n m k) r := q.congr fun n m k => if_neg h
theorem wst_true : ∀ (L : List OT) (M : List (Int × Int)), ∃ M', L.foldl wst (true, M) = (true, M')
  | [], M => ⟨M, rfl⟩
  | o :: L, M => by
    obtain ⟨M', h⟩ := wst_true L (mset o.1 o.2.1 M)
    exact ⟨M', h⟩
theorem wkeep : ∀ (L : List OT) (M M' : List (Int × Int)), L.foldl wst (false, M) = (false, M') → (∀ x y, mget x M = some y → mget x M' = some y) ∧ ∀ o ∈ L, mget o.1 M' = some o.2.1
  | [], M, M', h => by
    obtain rfl : M = M' := (Prod.mk.inj h).2
    exact ⟨fun x y h => h, fun o ho => (by cases ho)⟩
  | o :: L, M, M', h => by
    rw [List.foldl_cons] at h
    have hb : (wst (false, M) o).1 = false := by
      cases e : (wst (false, M) o).1 with
      | false => rfl
      | true =>
        obtain ⟨M2, h2⟩ := wst_true L (wst (false, M) o).2
        rw [← e] at h2
        have h3 : (wst (false, M) o).1 = false := (Prod.mk.inj (h2.symm.trans h)).1
        rw [e] at h3; cases h3
    have hst : wst (false, M) o = (false, mset o.1 o.2.1 M) := Prod.ext hb rfl
    rw [hst] at h
    obtain ⟨k1, k2⟩ := wkeep L _ _ h
    have hval : ∀ y, mget o.1 M = some y → y = o.2.1 := fun y hy => by
      have hb' : (if (false = true) then true else if (mget o.1 M).isSome = true then (mget o.1 M).getD 0 != o.2.1 else false) = false := hb
      rw [if_neg (by decide), hy] at hb'
      simpa using hb'
    refine ⟨fun x y hx => k1 x y ?_, fun p hp => ?_⟩
    · rw [mget_mset]
      by_cases q : x = o.1
      · rw [if_pos q]
        rw [q] at hx
        rw [hval y hx]
      · rw [if_neg q]; exact hx
    · rcases List.mem_cons.1 hp with rfl | hp
      · exact k1 _ _ (by rw [mget_mset, if_pos rfl])
      · exact k2 p hp
def Agree (L : List OT) : Prop := ∀ o ∈ L, ∀ p ∈ L, o.1 = p.1 → o.2.1 = p.2.1
theorem agree_of {L : List OT} {M' : List (Int × Int)} (h : L.foldl wst (false, []) = (false, M')) : Agree L := fun o ho p hp e => by
  have h1 := (wkeep L _ _ h).2 o ho
  have h2 := (wkeep L _ _ h).2 p hp
  rw [e, h2] at h1
  exact (Option.some.inj h1).symm
theorem twice_of {L : List OT} (h : ¬ Agree L) : ∃ M', L.foldl wst (false, []) = (true, M') := by
  cases e : L.foldl wst (false, []) with
  | mk b M' =>
    cases b with
    | true => exact ⟨M', rfl⟩
    | false => exact absurd (agree_of e) h
theorem says_of {n : Nat} {L : List OT} (h : Agree L) (hp : ∀ o ∈ L, 0 ≤ o.1 ∧ o.1 ≤ n) : ∃ A, Says n A L := by
  classical
  refine ⟨fun i => if q : ∃ o ∈ L, o.1 = (i : Int) then (Classical.choose q).2.1 else 0, fun o ho => ?_⟩
  obtain ⟨p1, p2⟩ := hp o ho
  refine ⟨o.1.toNat, by omega, by omega, ?_⟩
  have q : ∃ p ∈ L, p.1 = ((o.1.toNat : Nat) : Int) := ⟨o, ho, by omega⟩
  show o.2.1 = dite _ _ _
  rw [dif_pos q]
  have hc := Classical.choose_spec q
  exact h o ho _ hc.1 (by rw [hc.2]; omega)
theorem first_bad {P : OT → Prop} : ∀ (L : List OT), (¬ ∀ o ∈ L, P o) → ∃ j, ∃ h : j < L.length, ¬ P L[j] ∧ ∀ i, ∀ h : i < L.length, i < j → P L[i]
  | [], h => absurd (fun o ho => (by cases ho)) h
  | o :: L, h => by
    by_cases q : P o
    · obtain ⟨j, hj, h1, h2⟩ := first_bad (P := P) L fun q2 => h fun p hp => by
        rcases List.mem_cons.1 hp with rfl | hp
        · exact q
        · exact q2 p hp
      refine ⟨j + 1, by simpa using hj, h1, fun i hi hlt => ?_⟩
      cases i with
      | zero => exact q
      | succ i => exact h2 i (by simpa using hi) (by omega)
    · exact ⟨0, by simp, q, fun i _ h => absurd h (by omega)⟩
theorem pwhole_twice {r : Int} {n : Nat} (hn : n ≤ 64) {L : List OT} (hl : L.length ≤ 20000) (hc : ∀ o ∈ L, Ev (fun k => private_Check.m k r n o) 0) {M : List (Int × Int)} (hf : L.foldl wst (false, []) = (true, M)) :
    Ev (fun k => private_Whole.m k r n L) ((0, []), 470) := by
  refine evX (fun k => private_Whole.m_eq k _ _ _) (evF (dF (by omega)) (evF (dF (by omega)) ?_))
  refine (whole_l0 hl hc (T := true) (M := M) ?_ L.length 0 false [] (by omega) (by omega) hf).diag
  refine Ev2.step (fun a k => private_Whole.l0_succ a k _ _ _ _ _ _) ?_
  exact ev2F (dF (by omega)) (ev2T rfl (Ev2.now _))
theorem oD {L : List OT} {i : Nat} (h : i < L.length) : List.getD L (Int.toNat (i : Int)) (Int.ofNat 0, Int.ofNat 0, Int.ofNat 0, Int.ofNat 0, []) = L[i] := by
  rw [Int.toNat_natCast, List.getD_eq_getElem?_getD, List.getElem?_eq_getElem h]; rfl
theorem rw_l0 {r n : Int} {L : List OT} (hl : L.length ≤ 20000) (hc : ∀ o ∈ L, Ev (fun k => plexusref47_Check.m k r n o) 0) {res : (Int × List Int) × Int} (hfin : Ev (fun k => plexusref47_WholeIn.l1 k k n L 0) res) : ∀ (m i : Nat), L.length - i = m → i ≤ L.length → Ev2 (fun a k => plexusref47_WholeIn.l0 a k r n L (i : Int)) res
  | 0, i, hm, hi => by
    refine Ev2.step (fun a k => plexusref47_WholeIn.l0_succ a k _ _ _ _) ?_
    exact ev2F (dF (by omega)) (Ev2.of hfin)
  | m + 1, i, hm, hi => by
    have hlt : i < L.length := by omega
    refine Ev2.step (fun a k => plexusref47_WholeIn.l0_succ a k _ _ _ _) ?_
    rw [oD hlt, inc64 (by omega)]
    exact ev2T (dT (by omega)) (ev2T (by omega) (ev2T (by omega) (Ev2.bind (hc L[i] (List.getElem_mem hlt)) (ev2F (nF rfl) (rw_l0 hl hc hfin m (i + 1) (by omega) (by omega))))))
theorem rw_bad {r n : Int} {L : List OT} (hl : L.length ≤ 20000) {j : Nat} (hj : j < L.length) {c : Int} (hc0 : c ≠ 0) (hcj : Ev (fun k => plexusref47_Check.m k r n L[j]) c) (hc : ∀ i (h : i < L.length), i < j → Ev (fun k => plexusref47_Check.m k r n L[i]) 0) :
    ∀ (m i : Nat), j - i = m → i ≤ j → Ev2 (fun a k => plexusref47_WholeIn.l0 a k r n L (i : Int)) ((0, []), c)
  | 0, i, hm, hi => by
    obtain rfl : i = j := by omega
    refine Ev2.step (fun a k => plexusref47_WholeIn.l0_succ a k _ _ _ _) ?_
    rw [oD hj]
    exact ev2T (dT (by omega)) (ev2T (by omega) (ev2T (by omega) (Ev2.bind hcj (ev2T (nT hc0) (Ev2.now _)))))
  | m + 1, i, hm, hi => by
    have hlt : i < L.length := by omega
    refine Ev2.step (fun a k => plexusref47_WholeIn.l0_succ a k _ _ _ _) ?_
    rw [oD hlt, inc64 (by omega)]
    exact ev2T (dT (by omega)) (ev2T (by omega) (ev2T (by omega) (Ev2.bind (hc i hlt (by omega)) (ev2F (nF rfl) (rw_bad hl hj hc0 hcj hc m (i + 1) (by omega) (by omega))))))
theorem rw_l2 {n : Int} {L : List OT} (hl : L.length ≤ 20000) {i : Nat} (hi : i < L.length) {res : (Int × List Int) × Int}
    (hnext : (∀ k, ∀ h : k < L.length, k < i → ¬ (L[k].1 = L[i].1 ∧ L[k].2.1 ≠ L[i].2.1)) → Ev2 (fun m k => plexusref47_WholeIn.l1 m k n L ((i + 1 : Nat) : Int)) res)
    (hbad : (∃ k, ∃ h : k < L.length, k < i ∧ L[k].1 = L[i].1 ∧ L[k].2.1 ≠ L[i].2.1) → res = ((0, []), 470)) : ∀ (d c : Nat), i - c = d → c ≤ i → (∀ k, ∀ h : k < L.length, k < c → ¬ (L[k].1 = L[i].1 ∧ L[k].2.1 ≠ L[i].2.1)) → Ev3 (fun a m k => plexusref47_WholeIn.l2 a k m n L (i : Int) (c : Int)) res
  | 0, c, hd, hci, hno => by
    obtain rfl : c = i := by omega
    refine Ev3.step (fun a m k => plexusref47_WholeIn.l2_succ a k m _ _ _ _) ?_
    rw [inc64 (by omega)]
    exact ev3F (dF (by omega)) (Ev3.of2 (hnext hno))
  | d + 1, c, hd, hci, hno => by
    have hc : c < L.length := by omega
    refine Ev3.step (fun a m k => plexusref47_WholeIn.l2_succ a k m _ _ _ _) ?_
    rw [oD hc, oD hi, inc64 (by omega)]
    refine ev3T (dT (by omega)) (ev3T (by omega) (ev3T (by omega) (ev3T (by omega) (ev3T (by omega) ?_))))
    by_cases q1 : L[c].1 = L[i].1
    · refine ev3T (bT q1) (ev3T (by omega) (ev3T (by omega) (ev3T (by omega) (ev3T (by omega) ?_))))
      by_cases q2 : L[c].2.1 = L[i].2.1
      · refine ev3F (nF q2) (rw_l2 hl hi hnext hbad d (c + 1) (by omega) (by omega) fun k h hk => ?_)
        by_cases e : k = c
        · subst e; exact fun q => q.2 q2
        · exact hno k h (by omega)
      · rw [hbad ⟨c, hc, by omega, q1, q2⟩]
        exact ev3T (nT q2) (Ev3.now _)
    · refine ev3F (bF q1) (rw_l2 hl hi hnext hbad d (c + 1) (by omega) (by omega) fun k h hk => ?_)
      by_cases e : k = c
      · subst e; exact fun q => q1 q.1
      · exact hno k h (by omega)
theorem rw_l1_ok {n : Int} {L : List OT} (hl : L.length ≤ 20000) (hag : Agree L) {res : (Int × List Int) × Int} (hfin : Ev (fun k => plexusref47_WholeIn.l3 k k n L 0 0 []) res) : ∀ (d i : Nat), L.length - i = d → i ≤ L.length → Ev2 (fun m k => plexusref47_WholeIn.l1 m k n L (i : Int)) res
  | 0, i, hd, hi => by
    refine Ev2.step (fun m k => plexusref47_WholeIn.l1_succ m k _ _ _) ?_
    exact ev2F (dF (by omega)) (Ev2.of hfin)
  | d + 1, i, hd, hi => by
    have hlt : i < L.length := by omega
    refine Ev2.step (fun m k => plexusref47_WholeIn.l1_succ m k _ _ _) ?_
    refine ev2T (dT (by omega)) ?_
    exact (rw_l2 hl hlt (fun _ => rw_l1_ok hl hag hfin d (i + 1) (by omega) (by omega)) (fun ⟨k, h, _, q1, q2⟩ => absurd (hag _ (List.getElem_mem h) _ (List.getElem_mem hlt) q1) q2) i 0 (by omega) (by omega) (fun k _ h => absurd h (by omega))).diag
theorem rw_l1_bad {n : Int} {L : List OT} (hl : L.length ≤ 20000) {a b : Nat} (ha : a < L.length) (hb : b < L.length) (hab : a < b) (e1 : L[a].1 = L[b].1) (e2 : L[a].2.1 ≠ L[b].2.1) : ∀ (d i : Nat), b - i = d → i ≤ b → Ev2 (fun m k => plexusref47_WholeIn.l1 m k n L (i : Int)) ((0, []), 470)
  | 0, i, hd, hi => by
    obtain rfl : i = b := by omega
    refine Ev2.step (fun m k => plexusref47_WholeIn.l1_succ m k _ _ _) ?_
    refine ev2T (dT (by omega)) ?_
    exact (rw_l2 hl hb (fun h => absurd ⟨e1, e2⟩ (h a ha hab)) (fun _ => rfl) i 0 (by omega) (by omega) (fun k _ h => absurd h (by omega))).diag
  | d + 1, i, hd, hi => by
    have hlt : i < L.length := by omega
    refine Ev2.step (fun m k => plexusref47_WholeIn.l1_succ m k _ _ _) ?_
    refine ev2T (dT (by omega)) ?_
    exact (rw_l2 hl hlt (fun _ => rw_l1_bad hl ha hb hab e1 e2 d (i + 1) (by omega) (by omega)) (fun _ => rfl) i 0 (by omega) (by omega) (fun k _ h => absurd h (by omega))).diag
theorem not_agree {L : List OT} (h : ¬ Agree L) : ∃ a b, ∃ ha : a < L.length, ∃ hb : b < L.length, a < b ∧ L[a].1 = L[b].1 ∧ L[a].2.1 ≠ L[b].2.1 := by
  refine Classical.byContradiction fun hno => h fun o ho p hp e => Classical.byContradiction fun ne => ?_
  obtain ⟨i, hi, rfl⟩ := List.getElem_of_mem ho
  obtain ⟨j, hj, rfl⟩ := List.getElem_of_mem hp
  rcases Nat.lt_trichotomy i j with q | q | q
  · exact hno ⟨i, j, hi, hj, q, e, ne⟩
  · subst q; exact ne rfl
  · exact hno ⟨j, i, hj, hi, q, e.symm, fun e2 => ne e2.symm⟩
section
variable {n : Nat} (hn : n ≤ 64) {L : List OT} (hl : L.length ≤ 20000) {A : Nat → Int} (hs : Says n A L)
include hn hl hs
theorem rw_l4_done {p : Nat} (hp : p ≤ n) {V : Int} {B : List Int} {res : (Int × List Int) × Int} (hnext : Ev2 (fun m k => plexusref47_WholeIn.l3 m k n L ((p + 1 : Nat) : Int) V B) res) (j : Nat) : Ev3 (fun a m k => plexusref47_WholeIn.l4 a k m n L (p : Int) true (j : Int) V B) res := by
  refine Ev3.step (fun a m k => plexusref47_WholeIn.l4_succ a k m _ _ _ _ _ _ _) ?_
  rw [inc64 (i := p) (by omega)]
  by_cases h : j < L.length
  · exact ev3T (dT (by omega)) (ev3F (by decide) (ev3F (by decide) (Ev3.of2 hnext)))
  · exact ev3F (dF (by omega)) (ev3F (by decide) (Ev3.of2 hnext))
theorem rw_l4_some {p : Nat} (hp : p ≤ n) {V : Int} {B : List Int} (hB : B.length ≤ 1000) {res : (Int × List Int) × Int} (hnext : Ev2 (fun m k => plexusref47_WholeIn.l3 m k n L ((p + 1 : Nat) : Int) (if p = 0 then A 0 else V) (if p = 0 then B else B ++ [IntKind.wrap IntKind.u64 (A p)])) res) : ∀ (d j : Nat), L.length - j = d → j ≤ L.length → (∃ o ∈ L.drop j, o.1 = p) → Ev3 (fun a m k => plexusref47_WholeIn.l4 a k m n L (p : Int) false (j : Int) V B) res
  | 0, j, hd, hj, ⟨o, ho, _⟩ => by
    rw [List.drop_of_length_le (by omega)] at ho; cases ho
  | d + 1, j, hd, hj, ⟨o, ho, e⟩ => by
    have hlt : j < L.length := by omega
    refine Ev3.step (fun a m k => plexusref47_WholeIn.l4_succ a k m _ _ _ _ _ _ _) ?_
    rw [oD hlt, inc64 (i := j) (by omega)]
    refine ev3T (dT (by omega)) (ev3T rfl (ev3T (by omega) (ev3T (by omega) ?_)))
    by_cases q : L[j].1 = (p : Int)
    · obtain ⟨i, hi, e1, e2⟩ := hs L[j] (List.getElem_mem hlt)
      obtain rfl : i = p := by omega
      refine ev3T (bT q) ?_
      rw [e2]
      by_cases h0 : i = 0
      · subst h0
        rw [if_pos rfl, if_pos rfl] at hnext
        exact ev3T (bT rfl) (ev3T (by omega) (ev3T (by omega) (rw_l4_done hn hl hs hp hnext (j + 1))))
      · rw [if_neg h0, if_neg h0] at hnext
        exact ev3F (bF (by omega)) (ev3T (by omega) (ev3T (by omega) (ev3T (by simp; omega) (rw_l4_done hn hl hs hp hnext (j + 1)))))
    · refine ev3F (bF q) (rw_l4_some hp hB hnext d (j + 1) (by omega) (by omega) ⟨o, ?_, e⟩)
      rw [List.drop_eq_getElem_cons hlt] at ho
      rcases List.mem_cons.1 ho with r | r
      · rw [r] at e; exact absurd e q
      · exact r
theorem rw_l4_none {p : Nat} (hp : p ≤ n) {V : Int} {B : List Int} (hno : ∀ o ∈ L, o.1 ≠ p) : ∀ (d j : Nat), L.length - j = d → j ≤ L.length → Ev3 (fun a m k => plexusref47_WholeIn.l4 a k m n L (p : Int) false (j : Int) V B) ((0, []), 4)
  | 0, j, hd, hj => by
    refine Ev3.step (fun a m k => plexusref47_WholeIn.l4_succ a k m _ _ _ _ _ _ _) ?_
    exact ev3F (dF (by omega)) (ev3T rfl (Ev3.now _))
  | d + 1, j, hd, hj => by
    have hlt : j < L.length := by omega
    refine Ev3.step (fun a m k => plexusref47_WholeIn.l4_succ a k m _ _ _ _ _ _ _) ?_
    rw [oD hlt, inc64 (i := j) (by omega)]
    exact ev3T (dT (by omega)) (ev3T rfl (ev3T (by omega) (ev3T (by omega) (ev3F (bF (hno _ (List.getElem_mem hlt))) (rw_l4_none hp hno d (j + 1) (by omega) (by omega))))))
theorem rw_l3_all (hall : ∀ i : Nat, i ≤ n → ∃ o ∈ L, o.1 = i) {b : Bool} (hv : Ev (fun k => plexusref06_Valid.m k (A 0, (List.range n).map fun i => IntKind.wrap IntKind.u64 (A (i + 1)))) b) : ∀ (d p : Nat), n + 1 - p = d → p ≤ n + 1 →
    Ev2 (fun m k => plexusref47_WholeIn.l3 m k n L (p : Int) (if p = 0 then 0 else A 0) ((List.range (p - 1)).map fun i => IntKind.wrap IntKind.u64 (A (i + 1)))) (if b = true then ((A 0, (List.range n).map fun i => IntKind.wrap IntKind.u64 (A (i + 1))), 0) else ((0, []), 60))
  | 0, p, hd, hp => by
    obtain rfl : p = n + 1 := by omega
    refine Ev2.step (fun m k => plexusref47_WholeIn.l3_succ m k _ _ _ _ _) ?_
    rw [if_neg (show ¬ n + 1 = 0 by omega), Nat.add_sub_cancel]
    refine ev2F (dF (by omega)) (Ev2.bind hv ?_)
    cases b with
    | true => exact ev2F (by decide) (Ev2.now _)
    | false => exact ev2T rfl (Ev2.now _)
  | d + 1, p, hd, hp => by
    have hpn : p ≤ n := by omega
    refine Ev2.step (fun m k => plexusref47_WholeIn.l3_succ m k _ _ _ _ _) ?_
    refine ev2T (dT (by omega)) ?_
    have next := rw_l3_all hall hv d (p + 1) (by omega) (by omega)
    rw [if_neg (show ¬ p + 1 = 0 by omega), Nat.add_sub_cancel] at next
    obtain ⟨o, ho, e⟩ := hall p hpn
    refine (rw_l4_some hn hl hs hpn (by simp; omega) ?_ L.length 0 (by omega) (by omega) ⟨o, ho, e⟩).diag
    by_cases h0 : p = 0
    · subst h0
      exact next
    · rw [if_neg h0, if_neg h0, if_neg h0]
      obtain ⟨q, rfl⟩ : ∃ q, p = q + 1 := ⟨p - 1, by omega⟩
      rw [List.range_succ, List.map_append] at next
      exact next
theorem rw_l3_none {g : Nat} (hg : g ≤ n) (hno : ∀ o ∈ L, o.1 ≠ g) : ∀ (d p : Nat) (V : Int) (B : List Int), g - p = d → p ≤ g → B.length ≤ p → Ev2 (fun m k => plexusref47_WholeIn.l3 m k n L (p : Int) V B) ((0, []), 4)
  | 0, p, V, B, hd, hp, hB => by
    obtain rfl : p = g := by omega
    refine Ev2.step (fun m k => plexusref47_WholeIn.l3_succ m k _ _ _ _ _) ?_
    refine ev2T (dT (by omega)) ?_
    exact (rw_l4_none hn hl hs hg hno L.length 0 (by omega) (by omega)).diag
  | d + 1, p, V, B, hd, hp, hB => by
    refine Ev2.step (fun m k => plexusref47_WholeIn.l3_succ m k _ _ _ _ _) ?_
    refine ev2T (dT (by omega)) ?_
    by_cases q : ∃ o ∈ L, o.1 = (p : Int)
    · refine (rw_l4_some hn hl hs (p := p) (by omega) (by omega) ?_ L.length 0 (by omega) (by omega) q).diag
      refine rw_l3_none hg hno d (p + 1) _ _ (by omega) (by omega) ?_
      split
      · omega
      · simp; omega
    · exact (rw_l4_none hn hl hs (p := p) (by omega) (fun o ho e => q ⟨o, ho, e⟩) L.length 0 (by omega) (by omega)).diag
end
theorem whole_both {r n : Int} {L : List OT} (hl : L.length ≤ 1000) (hg : ∀ o ∈ L, Good o) : ∃ g, Ev (fun k => private_Whole.m k r n L) g ∧ Ev (fun k => plexusref47_WholeIn.m k r n L) g ∧ g.1.2.length ≤ 1000 := by
  by_cases h1 : n < 0
  · exact ⟨((0, []), 1), evX (fun k => private_Whole.m_eq k _ _ _) (evT (dT h1) (Ev.now _)), evX (fun k => plexusref47_WholeIn.m_eq k _ _ _) (evT (dT h1) (Ev.now _)), by simp⟩
  by_cases h2 : n > 64
  · exact ⟨((0, []), 1), evX (fun k => private_Whole.m_eq k _ _ _) (evF (dF h1) (evT (dT h2) (Ev.now _))), evX (fun k => plexusref47_WholeIn.m_eq k _ _ _) (evF (dF h1) (evT (dT h2) (Ev.now _))), by simp⟩
  obtain ⟨N, rfl⟩ := Int.eq_ofNat_of_zero_le (a := n) (by omega)
  have hN : N ≤ 64 := by omega
  have start : ∀ {g}, Ev2 (fun a k => plexusref47_WholeIn.l0 a k r N L ((0 : Nat) : Int)) g → Ev (fun k => plexusref47_WholeIn.m k r N L) g := fun h => evX (fun k => plexusref47_WholeIn.m_eq k _ _ _) (evF (dF h1) (evF (dF h2) h.diag))
  by_cases hall : ∀ o ∈ L, pc r N o = 0
  · have hc1 : ∀ o ∈ L, Ev (fun k => private_Check.m k r N o) 0 := fun o ho => by have := pc_f (r := r) (n := N) (hg o ho); rwa [hall o ho] at this
    have hc2 : ∀ o ∈ L, Ev (fun k => plexusref47_Check.m k r N o) 0 := fun o ho => by have := rpc_f (r := r) (n := N) (hg o ho); rwa [hall o ho] at this
    have hrange : ∀ o ∈ L, 0 ≤ o.1 ∧ o.1 ≤ N := fun o ho => by
      have h := hall o ho
      unfold pc at h
      by_cases q : (N : Int) < 0 ∨ 64 < (N : Int) ∨ o.1 < 0 ∨ (N : Int) < o.1
      · rw [if_pos q] at h; cases h
      · omega
    by_cases hag : Agree L
    · obtain ⟨A, hs⟩ := says_of hag hrange
      have fin : ∀ {g}, Ev2 (fun m k => plexusref47_WholeIn.l3 m k N L ((0 : Nat) : Int) 0 []) g → Ev (fun k => plexusref47_WholeIn.m k r N L) g := fun h =>
        start (rw_l0 (by omega) hc2 (rw_l1_ok (by omega) hag h.diag L.length 0 (by omega) (by omega)).diag L.length 0 (by omega) (by omega))
      by_cases hpl : ∀ i : Nat, i ≤ N → ∃ o ∈ L, o.1 = i
      · obtain ⟨b, v1, v2⟩ := valid_both (A 0, (List.range N).map fun i => IntKind.wrap IntKind.u64 (A (i + 1))) (fun x hx => by
          obtain ⟨y, _, rfl⟩ := List.mem_map.1 hx
          exact wrap_U _) (by simp; omega)
        refine ⟨_, pwhole_all hN (by omega) hc1 hs hpl v1, fin (rw_l3_all hN (by omega) hs hpl v2 (N + 1) 0 (by omega) (by omega)), ?_⟩
        cases b with
        | true => simp; omega
        | false => simp
      · obtain ⟨g, hgn, hno⟩ : ∃ g : Nat, g ≤ N ∧ ∀ o ∈ L, o.1 ≠ g := by
          refine Classical.byContradiction fun q => hpl fun i hi => Classical.byContradiction fun q2 => q ⟨i, hi, fun o ho e => q2 ⟨o, ho, e⟩⟩
        exact ⟨((0, []), 4), pwhole_lack hN (by omega) hc1 hs hgn hno, fin (rw_l3_none hN (by omega) hs hgn hno g 0 0 [] (by omega) (by omega) (by simp)), by simp⟩
    · obtain ⟨M, hf⟩ := twice_of hag
      obtain ⟨a, b, ha, hb, hab, e1, e2⟩ := not_agree hag
      exact ⟨((0, []), 470), pwhole_twice hN (by omega) hc1 hf, start (rw_l0 (by omega) hc2 (rw_l1_bad (by omega) ha hb hab e1 e2 b 0 (by omega) (by omega)).diag L.length 0 (by omega) (by omega)), by simp⟩
  · obtain ⟨j, hj, hbad, hbefore⟩ := first_bad (P := fun o => pc r N o = 0) L hall
    have p1 := pc_f (r := r) (n := N) (hg _ (List.getElem_mem hj))
    have p2 := rpc_f (r := r) (n := N) (hg _ (List.getElem_mem hj))
    refine ⟨((0, []), pc r N L[j]), pwhole_bad hN (by omega) hj hbad p1 fun i h hlt => ?_, start (rw_bad (by omega) hj hbad p2 (fun i h hlt => ?_) j 0 (by omega) (by omega)), by simp⟩
    · have := pc_f (r := r) (n := N) (hg _ (List.getElem_mem h)); rwa [hbefore i h hlt] at this
    · have := rpc_f (r := r) (n := N) (hg _ (List.getElem_mem h)); rwa [hbefore i h hlt] at this
end Go.Proofs.YtchpkglnmpmcmaaQ
