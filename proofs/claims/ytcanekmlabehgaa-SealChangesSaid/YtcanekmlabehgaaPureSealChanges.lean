/- The law that the row states of plexus/plexuslaw03.SealChanges: for every input the answer is true. Under no condition. -/
import Derived.Test.YtcanekmlabehgaaP03x7
import Derived.Test.YtcanekmlabehgaaQSealB
namespace Go.Proofs.Ytcanekmlabehgaa.Pure
set_option linter.unusedVariables false
set_option linter.unusedSimpArgs false
open Go.RowKit Go.Proofs.Ytcanekmlabehgaa.P03 Go.Proofs.YtcanekmlabehgaaW.PrintWords Go.Proofs.YtcanekmlabehgaaW.PrintLast Go.Proofs.YtcanekmlabehgaaW.PrintMore Go.Proofs.YtcanekmlabehgaaQ
theorem SealChanges : plexuslaw03_SealChanges.Pure := by
  intro l ⟨k0, k1⟩ v hl hk hv
  have hu : ∀ x ∈ l, U x := fun x hx => u_wf (hl.2.2 x hx)
  have hV := u_wf hv
  obtain ⟨K0, rfl, hK0⟩ := u16_wf hk.1
  obtain ⟨K1, rfl, hK1⟩ := u16_wf hk.2
  refine Ev.rounds (r := true) ?_
  unfold plexuslaw03_SealChanges.f
  refine Ev.bind seal03_exs (evT rfl ?_)
  have e0 : wrap64 (1 + wrap64 (Int.tmod (K0 : Int) 300)) = ((1 + K0 % 300 : Nat) : Int) := by
    rw [show (300 : Int) = ((300 : Nat) : Int) from rfl, tmod_cast, w64 (x := ((K0 % 300 : Nat) : Int)) (by omega) (by omega), w64 (by omega) (by omega)]; omega
  rw [e0]
  have hn300 : 1 + K0 % 300 ≤ 300 := by have := Nat.mod_lt K0 (show 300 > 0 by decide); omega
  obtain ⟨d, hd, hdu, _, hg⟩ := grown_f hu (n := 1 + K0 % 300) (by omega)
  refine Ev.bind hg ?_
  rw [hd]
  generalize hn : 1 + K0 % 300 = n at *
  have hn1 : 1 ≤ n := by omega
  refine evF (by omega) ?_
  rw [w64 (x := (K1 : Int)) (by omega) (by omega), tmod_cast]
  have hi : K1 % n < n := Nat.mod_lt _ (by omega)
  generalize K1 % n = i at *
  refine Ev.bind (Ev.now _) (evT (by rw [List.length_nil]; omega) ?_)
  refine Ev.bind (Ev.now _) (evT (by omega) (evT (by rw [List.nil_append, hd]; omega) ?_))
  refine Ev.bind (Ev.now _) ?_
  rw [List.nil_append, Int.toNat_natCast]
  have hs : (d.set i v).length = n := by rw [List.length_set, hd]
  have hsu := set_U hdu hV i
  refine Ev.bind (opened_f (i := i) (by omega) (by omega) hdu) ?_
  refine Ev.bind (opened_f (i := i) (by omega) (by omega) hsu) ?_
  refine evT rfl (evT rfl ?_)
  have hpl := path_le 0 n d hd hn1 i
  have hps := path_set 0 v n d hd i
  have hr := root_set 0 v d i (by omega) U0 hdu hV
  rw [hd] at hr
  have hp := path_len 0 n d hd i
  have hpu := path_U 0 U0 n d hd hdu i
  simp only [hps]
  refine Ev.bind (same_f _ (by omega)) (evT rfl ?_)
  refine Ev.bind (root_f n d hd hn1 (by omega) hdu) ?_
  have h1 := root_f n _ hs hn1 (by omega) hsu
  refine Ev.bind h1 ?_
  refine evT (by omega) ?_
  have e : ((root 0 d == root 0 (d.set i v)) == (v == rd d (i : Int))) = true := by
    rw [rd_getD]
    by_cases h : v = d.getD i 0
    · rw [beq_iff_eq.2 (hr.1.2 h), beq_iff_eq.2 h]; rfl
    · rw [beq_eq_false_iff_ne.2 (fun e => h (hr.1.1 e)), beq_eq_false_iff_ne.2 h]; rfl
  refine evT e ?_
  refine Ev.bind h1 ?_
  have h2 := check_f (r := root 0 (d.set i v)) (leaf := v) hi (by omega) hpu hV
  rw [if_pos hp.symm, if_pos hr.2] at h2
  exact Ev.bind h2 (evT rfl (Ev.now _))
end Go.Proofs.Ytcanekmlabehgaa.Pure
