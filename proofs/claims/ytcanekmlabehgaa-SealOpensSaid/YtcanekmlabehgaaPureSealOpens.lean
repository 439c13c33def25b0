/- The law that the row states of plexus/plexuslaw03.SealOpens: for every input the answer is true. Under no condition. -/
import Derived.Test.YtcanekmlabehgaaP03x6
import Derived.Test.YtcanekmlabehgaaQSeal
namespace Go.Proofs.Ytcanekmlabehgaa.Pure
set_option linter.unusedVariables false
set_option linter.unusedSimpArgs false
open Go.RowKit Go.Proofs.Ytcanekmlabehgaa.P03 Go.Proofs.YtcanekmlabehgaaW.PrintWords Go.Proofs.YtcanekmlabehgaaW.PrintLast Go.Proofs.YtcanekmlabehgaaW.PrintMore Go.Proofs.YtcanekmlabehgaaQ
theorem opens_exs : Ev (fun k => plexuslaw03_examples.f k) true := Ev.of (fun k => plexuslaw03_examples.mono k) (show plexuslaw03_examples.f 100 = some true by kernel_rfl)
theorem opens_u {a : Int} (h : (Lit.int .u64 a).wf = true) : U a := by
  simp [Lit.wf, IntKind.min, IntKind.max, IntKind.signed, IntKind.bits] at h
  exact ⟨by omega, by omega⟩
theorem opens_u16 {a : Int} (h : (Lit.int .u16 a).wf = true) : ∃ n : Nat, a = n ∧ n < 65536 := by
  simp [Lit.wf, IntKind.min, IntKind.max, IntKind.signed, IntKind.bits] at h
  exact ⟨a.toNat, by omega, by omega⟩
theorem rd_nat (l : List Int) (i : Nat) : rd l (i : Int) = l.getD i 0 := by simp [rd]
theorem tmod_nat (a b : Nat) : Int.tmod (a : Int) (b : Int) = ((a % b : Nat) : Int) := by rw [Int.tmod_eq_emod_of_nonneg (by omega)]; omega
theorem SealOpens : plexuslaw03_SealOpens.Pure := by
  intro l ⟨k0, k1, k2⟩ v hl hk hv
  have hu : ∀ x ∈ l, U x := fun x hx => opens_u (hl.2.2 x hx)
  have hV := opens_u hv
  obtain ⟨K0, rfl, hK0⟩ := opens_u16 hk.1
  obtain ⟨K1, rfl, hK1⟩ := opens_u16 hk.2.1
  obtain ⟨K2, rfl, hK2⟩ := opens_u16 hk.2.2
  refine Ev.rounds (r := true) ?_
  unfold plexuslaw03_SealOpens.f
  refine Ev.bind opens_exs ?_
  simp only [if_true]
  have e0 : wrap64 (1 + wrap64 (Int.tmod (K0 : Int) 300)) = ((1 + K0 % 300 : Nat) : Int) := by
    rw [show (300 : Int) = ((300 : Nat) : Int) from rfl, tmod_nat, w64 (x := ((K0 % 300 : Nat) : Int)) (by omega) (by omega), w64 (by omega) (by omega)]; omega
  rw [e0]
  have hn300 : 1 + K0 % 300 ≤ 300 := by have := Nat.mod_lt K0 (show 300 > 0 by decide); omega
  obtain ⟨d, hd, hdu, _, hg⟩ := grown_f hu (n := 1 + K0 % 300) (by omega)
  refine Ev.bind hg ?_
  rw [hd]
  generalize hn : 1 + K0 % 300 = n at *
  have hn1 : 1 ≤ n := by omega
  refine evF (by omega) ?_
  rw [w64 (x := (K1 : Int)) (by omega) (by omega), tmod_nat]
  have hi : K1 % n < n := Nat.mod_lt _ (by omega)
  generalize K1 % n = i at *
  refine Ev.bind (root_f n d hd hn1 (by omega) hdu) ?_
  refine Ev.bind (opened_f (i := i) (by omega) (by omega) hdu) ?_
  refine evT (by omega) (evT (by omega) (evT rfl ?_))
  have hp := path_len 0 n d hd i
  have hpl := path_le 0 n d hd hn1 i
  have hpu := path_U 0 U0 n d hd hdu i
  have hf := fold_path 0 n d hd i hi
  have hdi : U (d.getD i 0) := by rw [show d.getD i 0 = d[i]'(by omega) by simp [List.getD, hd, hi]]; exact hdu _ (List.getElem_mem _)
  have hr := root_U 0 U0 n d hd hdu
  rw [rd_nat]
  generalize path 0 d i = p at *
  generalize root 0 d = r at *
  generalize hx : d.getD i 0 = x at *
  simp only []
  have h1 := check_f (r := r) (leaf := x) hi (by omega) hpu hdi
  rw [if_pos hp.symm, if_pos hf] at h1
  refine Ev.bind h1 (evT rfl ?_)
  have h2 := check_f (r := r) (leaf := v) hi (by omega) hpu hV
  rw [if_pos hp.symm] at h2
  refine Ev.bind h2 ?_
  have e2 : ((((if fold v p (sides n i) = r then 0 else 6 : Int)) == 0) != (v == x)) = false := by
    have := fold_h p (sides n i) v x hV hdi hpu
    rw [hf] at this
    by_cases h : v = x
    · rw [if_pos (this.2 h)]; simp [h]
    · rw [if_neg (fun e => h (this.1 e))]; simp [h]
  rw [e2]
  refine evF (by decide) ?_
  refine Ev.bind (Ev.now _) (evT (by simp; omega) ?_)
  refine Ev.bind (Ev.now _) (evT (by simp; omega) ?_)
  rw [List.nil_append]
  have h3 := check_f (r := r) (leaf := x) (p := p ++ [v]) hi (by omega) (fun y hy => by
    rcases List.mem_append.1 hy with h | h
    · exact hpu y h
    · rw [List.mem_singleton.1 h]; exact hV) hdi
  rw [if_neg (by simp; omega)] at h3
  refine Ev.bind h3 (evT rfl ?_)
  by_cases hp0 : p.length = 0
  · refine evT (by omega) ?_
    have : n = 1 := by
      rw [hp] at hp0
      rw [sides] at hp0
      by_cases h : n ≤ 1
      · omega
      · rw [dif_neg h] at hp0
        split at hp0 <;> simp at hp0
    exact evT (by omega) (Ev.now _)
  · refine evF (by omega) ?_
    rw [w64 (x := (K2 : Int)) (by omega) (by omega), tmod_nat]
    have ha : K2 % p.length < p.length := Nat.mod_lt _ (by omega)
    generalize K2 % p.length = at_ at *
    refine Ev.bind (Ev.now _) (evT (by simp; omega) ?_)
    refine Ev.bind (Ev.now _) ?_
    rw [List.nil_append]
    refine evT (by omega) (evT (by omega) ?_)
    rw [Int.toNat_natCast]
    have h4 := check_f (r := r) (leaf := x) (p := p.set at_ v) hi (by omega) (set_U hpu hV at_) hdi
    rw [List.length_set, if_pos hp.symm] at h4
    refine Ev.bind h4 ?_
    refine evT (by omega) ?_
    rw [rd_nat]
    have e4 : ((((if fold x (p.set at_ v) (sides n i) = r then 0 else 6 : Int)) == 0) == (v == p.getD at_ 0)) = true := by
      have := fold_set p (sides n i) x v at_ ha hp hdi hV hpu
      rw [hf] at this
      by_cases h : v = p.getD at_ 0
      · rw [if_pos (this.2 h)]; simp [h]
      · rw [if_neg (fun e => h (this.1 e))]; simp only [List.getD_eq_getElem?_getD] at h ⊢; simp [h]
    refine evT e4 ?_
    rw [w64 (x := (p.length : Int) - 1) (by omega) (by omega)]
    refine evT (by omega) (evT (by omega) ?_)
    rw [show ((p.length : Int) - 1).toNat = p.length - 1 by omega]
    have h5 := check_f (r := r) (leaf := x) (p := p.take (p.length - 1)) hi (by omega) (take_U hpu _) hdi
    rw [if_neg (by simp; omega)] at h5
    exact Ev.bind h5 (evT rfl (Ev.now _))
end Go.Proofs.Ytcanekmlabehgaa.Pure
