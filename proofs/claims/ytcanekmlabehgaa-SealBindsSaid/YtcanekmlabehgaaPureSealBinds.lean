/- The law that the row states of plexus/plexuslaw03.SealBinds: for every input the answer is true. Under no condition. -/
import Derived.Test.YtcanekmlabehgaaVsBinds
import Derived.Test.YtcanekmlabehgaaQSealB
namespace Go.Proofs.Ytcanekmlabehgaa.Pure
set_option linter.unusedVariables false
set_option linter.unusedSimpArgs false
open Go.RowKit Go.Proofs.Ytcanekmlabehgaa.P03 Go.Proofs.YtcanekmlabehgaaW.PrintWords Go.Proofs.YtcanekmlabehgaaW.PrintLast Go.Proofs.YtcanekmlabehgaaW.PrintMore Go.Proofs.YtcanekmlabehgaaQ
theorem rjoin_f {a b : Int} (ha : U a) (hb : U b) : plexusref03_Join.f a b = some (jn a b) := by
  obtain ⟨A, rfl, hA⟩ := ha.nat
  obtain ⟨B, rfl, hB⟩ := hb.nat
  unfold plexusref03_Join.f jn
  rw [show (1785686382 : Int) = ((1785686382 : Nat) : Int) from rfl, rstep_f (by decide) hA]
  simp only [Option.bind_some, Int.toNat_natCast]
  rw [rstep_f (stepN_lt _ _) hB]; rfl
theorem rup_f {a b : Int} {s : Bool} (ha : U a) (hb : U b) : plexusref03_Up.f a b s = some (YtcanekmlabehgaaQ.up a b s) := by
  unfold plexusref03_Up.f YtcanekmlabehgaaQ.up
  rw [rjoin_f ha hb, rjoin_f hb ha]
  cases s <;> rfl
theorem rhalf_l0 {n : Nat} (hn : n ≤ 65536) : ∀ (m a : Nat), n - 2 ^ a ≤ m → 2 ^ a < n → Ev (fun k => plexusref03_Half.l0 k (n : Int) ((2 ^ a : Nat) : Int)) ((halfN n : Nat) : Int)
  | 0, a, hm, h => by omega
  | m + 1, a, hm, h => by
    refine Ev.step (fun k => by rw [plexusref03_Half.l0]) ?_
    have hp : 1 ≤ 2 ^ a := Nat.one_le_two_pow
    have hs : 2 ^ (a + 1) = 2 * 2 ^ a := by rw [Nat.pow_succ, Nat.mul_comm]
    by_cases h2 : 2 ^ (a + 1) < n
    · have ih := rhalf_l0 hn m (a + 1) (by omega) h2
      rw [hs] at ih h2
      generalize 2 ^ a = z at *
      have e : wrap64 (2 * (z : Int)) = ((2 * z : Nat) : Int) := by rw [w64 (by omega) (by omega)]; omega
      rw [e]
      exact evT (by omega) ih
    · have e1 : halfN n = 2 ^ a := by
        unfold halfN
        rw [(Nat.log2_eq_iff (n := n - 1) (k := a) (by omega)).2 ⟨by omega, by omega⟩]
      rw [e1]
      rw [hs] at h2
      generalize 2 ^ a = z at *
      have e : wrap64 (2 * (z : Int)) = ((2 * z : Nat) : Int) := by rw [w64 (by omega) (by omega)]; omega
      rw [e]
      exact evF (by omega) (Ev.now _)
theorem rhalf_f {n : Nat} (h2 : 2 ≤ n) (hn : n ≤ 65536) : Ev (fun k => plexusref03_Half.f k (n : Int)) ((halfN n : Nat) : Int) := by
  unfold plexusref03_Half.f
  exact rhalf_l0 hn n 0 (by omega) (by omega)
theorem rsides_f : ∀ (n i : Nat), i < n → n ≤ 65536 → Ev (fun k => plexusref03_Sides.f k (n : Int) (i : Int)) (sides n i) := by
  intro n
  induction n using Nat.strongRecOn with
  | ind n ih =>
    intro i hi hm
    refine Ev.step (fun k => by rw [plexusref03_Sides.f]) ?_
    by_cases h : n ≤ 1
    · rw [sides_one h]
      exact evT (by omega) (Ev.now _)
    · have h2 := halfN_lt (n := n) (by omega)
      have h3 := halfN_pos n
      refine evF (by omega) ?_
      refine Ev.bind (rhalf_f (by omega) hm) ?_
      by_cases hk : i < halfN n
      · rw [sides_l h hk]
        refine evT (by omega) ?_
        refine Ev.bind (ih (halfN n) (by omega) i hk (by omega)) ?_
        have := sides_le (halfN n) (by omega) i
        exact evT (by omega) (Ev.now _)
      · rw [sides_r h hk]
        refine evF (by omega) ?_
        rw [w64 (x := (n : Int) - _) (by omega) (by omega), w64 (x := (i : Int) - _) (by omega) (by omega), show (n : Int) - (halfN n : Nat) = ((n - halfN n : Nat) : Int) by omega, show (i : Int) - (halfN n : Nat) = ((i - halfN n : Nat) : Int) by omega]
        refine Ev.bind (ih (n - halfN n) (by omega) (i - halfN n) (by omega) (by omega)) ?_
        have := sides_le (n - halfN n) (by omega) (i - halfN n)
        exact evT (by omega) (Ev.now _)
theorem binds_l0 (S : List Bool) (p q : List Int) (w : Int) (ep : p.length = S.length) (eq : q.length = S.length) (hm : S.length ≤ 1000000) (hp : ∀ x ∈ p, U x) (hq : ∀ x ∈ q, U x) : ∀ (m j : Nat) (g h : Int) (z : Bool), S.length - j = m → U g → U h → (z = true ↔ g = h) → fold g (p.drop j) (S.drop j) = fold h (q.drop j) (S.drop j) →
    Ev (fun k => plexuslaw03_SealBinds.l0 k true q S g h z (j : Int) p w) true
  | 0, j, g, h, z, hj, hg, hh, hz, hf => by
    rw [List.drop_of_length_le (l := p) (by omega), List.drop_of_length_le (l := q) (by omega), List.drop_of_length_le (l := S) (by omega)] at hf
    simp only [fold] at hf
    refine Ev.step (fun k => by rw [plexuslaw03_SealBinds.l0]) ?_
    refine evF (by omega) ?_
    exact evT (hz.2 hf) (Ev.now _)
  | m + 1, j, g, h, z, hj, hg, hh, hz, hf => by
    have hjS : j < S.length := by omega
    have hjp : j < p.length := by omega
    have hjq : j < q.length := by omega
    have hP := hp _ (List.getElem_mem hjp)
    have hQ := hq _ (List.getElem_mem hjq)
    rw [List.drop_eq_getElem_cons hjp, List.drop_eq_getElem_cons hjq, List.drop_eq_getElem_cons hjS] at hf
    simp only [fold] at hf
    refine Ev.step (fun k => by rw [plexuslaw03_SealBinds.l0]) ?_
    have e1 : rd p (j : Int) = p[j] := by simp [rd, hjp]
    have e2 : rd q (j : Int) = q[j] := by simp [rd, hjq]
    have e3 : rdOf false S (j : Int) = S[j] := by simp [rdOf, hjS]
    rw [e1, e2, e3, rup_f hg hP, rup_f hh hQ, w64 (x := (j : Int) + 1) (by omega) (by omega), show (j : Int) + 1 = ((j + 1 : Nat) : Int) by omega]
    simp only [Option.bind_some]
    refine evT (by omega) (evT (by omega) (evT (by omega) (evT (by omega) ?_)))
    have hU1 := up_U g p[j] S[j]
    have hU2 := up_U h q[j] S[j]
    have ih := fun z' (hz' : z' = true ↔ YtcanekmlabehgaaQ.up g p[j] S[j] = YtcanekmlabehgaaQ.up h q[j] S[j]) => binds_l0 S p q w ep eq hm hp hq m (j + 1) (YtcanekmlabehgaaQ.up g p[j] S[j]) (YtcanekmlabehgaaQ.up h q[j] S[j]) z' (by omega) hU1 hU2 hz' hf
    have hh1 : g = h → p[j] = q[j] → YtcanekmlabehgaaQ.up g p[j] S[j] = YtcanekmlabehgaaQ.up h q[j] S[j] := fun a b => by rw [a, b]
    generalize YtcanekmlabehgaaQ.up g p[j] S[j] = A at *
    generalize YtcanekmlabehgaaQ.up h q[j] S[j] = B at *
    by_cases c1 : g = h
    · refine evT c1 ?_
      by_cases c2 : p[j] = q[j]
      · refine evT c2 (evT (hz.2 c1) (ih _ ?_))
        rw [beq_iff_eq]
        exact ⟨fun _ => hh1 c1 c2, fun _ => c2⟩
      · refine evF c2 ?_
        by_cases c3 : A = B
        · exact evT c3 (Ev.now _)
        · refine evF c3 (evT (hz.2 c1) (ih _ ?_))
          rw [beq_iff_eq]
          exact ⟨fun a => absurd a c2, fun a => absurd a c3⟩
    · refine evF c1 ?_
      by_cases c3 : A = B
      · exact evT c3 (Ev.now _)
      · refine evF c3 (evF (fun a => c1 (hz.1 a)) (ih _ ?_))
        exact ⟨fun a => absurd a (by decide), fun a => absurd a c3⟩
theorem SealBinds : plexuslaw03_SealBinds.Pure := by
  intro l ⟨k0, k1⟩ ⟨xi, v⟩ hl hk hx
  have hu : ∀ x ∈ l, U x := fun x hx => u_wf (hl.2.2 x hx)
  have hV := u_wf hx.2
  obtain ⟨K0, rfl, hK0⟩ := u16_wf hk.1
  obtain ⟨K1, rfl, hK1⟩ := u16_wf hk.2
  refine Ev.rounds (r := true) ?_
  unfold plexuslaw03_SealBinds.f
  refine Ev.bind seal03_exs (evT rfl ?_)
  have e0 : wrap64 (1 + wrap64 (Int.tmod (K0 : Int) 60)) = ((1 + K0 % 60 : Nat) : Int) := by
    rw [show (60 : Int) = ((60 : Nat) : Int) from rfl, tmod_cast, w64 (x := ((K0 % 60 : Nat) : Int)) (by omega) (by omega), w64 (by omega) (by omega)]; omega
  rw [e0]
  have hn60 : 1 + K0 % 60 ≤ 60 := by have := Nat.mod_lt K0 (show 60 > 0 by decide); omega
  obtain ⟨d, hd, hdu, _, hg⟩ := grown_f hu (n := 1 + K0 % 60) (by omega)
  refine Ev.bind hg ?_
  rw [hd]
  generalize hn : 1 + K0 % 60 = n at *
  have hn1 : 1 ≤ n := by omega
  refine evF (by omega) ?_
  rw [w64 (x := (K1 : Int)) (by omega) (by omega), tmod_cast]
  have hi : K1 % n < n := Nat.mod_lt _ (by omega)
  generalize K1 % n = i at *
  refine Ev.bind (root_f n d hd hn1 (by omega) hdu) ?_
  refine Ev.bind (opened_f (i := i) (by omega) (by omega) hdu) ?_
  have hp := path_len 0 n d hd i
  have hpl := path_le 0 n d hd hn1 i
  have hpu := path_U 0 U0 n d hd hdu i
  have hf := fold_path 0 n d hd i hi
  have hdi : U (d.getD i 0) := by rw [show d.getD i 0 = d[i]'(by omega) by simp [List.getD, hd, hi]]; exact hdu _ (List.getElem_mem _)
  generalize path 0 d i = p at *
  generalize root 0 d = r at *
  simp only []
  have em : mn (l.length : Int) (p.length : Int) = ((min l.length p.length : Nat) : Int) := by unfold mn; split <;> omega
  rw [em]
  refine evT (by omega) (evT (by omega) (evT (by trivial) ?_))
  rw [Int.toNat_natCast]
  have hqu := take_U hu (min l.length p.length)
  generalize hq : l.take (min l.length p.length) = q at *
  have h1 := check_f (r := r) (leaf := v) hi (by omega) hqu hV
  refine Ev.bind h1 ?_
  by_cases c1 : (sides n i).length = q.length
  · by_cases c2 : fold v q (sides n i) = r
    · rw [if_pos c1, if_pos c2]
      refine evT rfl ?_
      refine Ev.bind (rsides_f n i hi (by omega)) ?_
      refine evT (by omega) (evT (by omega) (evT (by omega) (evT (by omega) ?_)))
      rw [rd_getD]
      have := sides_le n hn1 i
      have hb := binds_l0 (sides n i) p q 0 (by omega) (by omega) (by omega) hpu hqu (sides n i).length 0 (d.getD i 0) v (d.getD i 0 == v) rfl hdi hV beq_iff_eq (by simp only [List.drop_zero]; rw [hf, c2])
      exact hb
    · rw [if_pos c1, if_neg c2]
      exact evF (by decide) (Ev.now _)
  · rw [if_neg c1]
    exact evF (by decide) (Ev.now _)
end Go.Proofs.Ytcanekmlabehgaa.Pure
