/- PrivateBinds, but for the examples. -/
import Derived.Test.YtchpkglnmpmcmaaQB
import Derived.Test.YtchpkglnmpmcmaaX47B
namespace Go.Proofs.YtchpkglnmpmcmaaQ
set_option linter.unusedVariables false
set_option linter.unusedSimpArgs false
open Go Go.RowKit Go.Proofs.Ytchpkglnmpmcmaa.V47 Go.Proofs.YtchpkglnmpmcmaaW.PrintWords Go.Proofs.YtchpkglnmpmcmaaW.PrintLast Go.Proofs.YtchpkglnmpmcmaaW.PrintMore
theorem BY.nat {x : Int} (h : BY x) : ∃ n : Nat, x = (n : Int) ∧ n < 256 := by
  obtain ⟨n, hn⟩ := Int.eq_ofNat_of_zero_le h.1
  exact ⟨n, hn, by have := h.2; omega⟩
theorem mxF_ne (y : Int) (hy : U y) : U (Go.Vx.mxF y 1) ∧ Go.Vx.mxF y 1 ≠ 0 := by
  unfold Go.Vx.mxF
  unfold U at hy ⊢
  split <;> omega
theorem checked_c {r : Int} {n i : Nat} {o : OT} (hn : n ≤ 64) (hi : i ≤ n) (ho : o.1 = i) (hp : ∀ x ∈ o.2.2.2.2, U x) {c : Int} (hc : chk r n i o = c) : Ev (fun k => plexuslaw47_checked.m k r n o) c := hc ▸ checked_f hn hi ho hp
theorem binds_of (hex : Ev (fun k => plexuslaw47_examples.m k) true) {a0 : List Int} (ha : ∀ x ∈ a0, BY x) {a1 : Int × Int × Int × Int} (b0 : BY a1.1) (b1 : BY a1.2.1) (b2 : BY a1.2.2.1) (b3 : BY a1.2.2.2) {y : Int} (hy : U y) : Ev (fun k => plexuslaw47_PrivateBinds.m k a0 a1 y) true := by
  obtain ⟨v, ⟨xv, l⟩, hv1, hv7, ok, hm⟩ := made_f ha
  obtain rfl : xv = (v : Int) := ok.pts
  have hlen : l.length ≤ 10 := ok.len
  obtain ⟨t0, t1, t2, t3⟩ := a1
  obtain ⟨z0, rfl, h0⟩ := BY.nat b0
  obtain ⟨z1, rfl, h1⟩ := BY.nat b1
  obtain ⟨z2, rfl, h2⟩ := BY.nat b2
  obtain ⟨z3, rfl, h3⟩ := BY.nat b3
  refine evX (fun k => plexuslaw47_PrivateBinds.m_eq k _ _ _) ?_
  refine Ev.bind hex (evF (by decide) (Ev.bind hm ?_))
  show Ev (fun k => _) true
  generalize IntKind.wrap IntKind.i64 (z0 : Int) = s
  have ei : Go.Vx.divF BinOp.rem IntKind.i64 (IntKind.wrap IntKind.i64 (z1 : Int)) (IntKind.wrap IntKind.i64 ((l.length : Int) + 1)) = ((z1 % (l.length + 1) : Nat) : Int) := by
    rw [wrap_i64', wrap_i64', w64 (x := (z1 : Int)) (by omega) (by omega), w64 (by omega) (by omega), show (l.length : Int) + 1 = ((l.length + 1 : Nat) : Int) by omega, rem_range]
  have hi : z1 % (l.length + 1) ≤ l.length := by have := Nat.mod_lt z1 (y := l.length + 1) (by omega); omega
  refine Ev.bind (commit_f ((v : Int), l) s (by show l.length ≤ _; omega)) (evF (by show ¬ (IntKind.wrap IntKind.i64 ((l.length : Int) + 1) = 0); rw [wrap_i64', w64 (by omega) (by omega)]; omega) ?_)
  simp only [ei]
  generalize z1 % (l.length + 1) = i at hi
  refine Ev.bind (shown_f ((v : Int), l) s (by show l.length ≤ _; omega) (i := i) hi) (evF (nF rfl) ?_)
  have hU := opn_pathU (v : Int) l s i
  have hat := opn_at (v : Int) l s i
  have hok := chk_opn (v : Int) l s hi
  have hfit := opn_fits (v := (v : Int)) (by unfold S; omega) l (by omega) s i
  have hpl : (opn (v : Int) l s i).2.2.2.2.length ≤ 100000 := by
    rw [opn_path]
    have := path_le 0 (l.length + 1) (lvs (v : Int) l s) (lvs_len _ _ _) (by omega) i
    omega
  show Ev (fun k => _) true
  generalize opn (v : Int) l s i = o at hU hat hok hfit hpl
  refine Ev.bind (checked_c (o := o) (by omega) hi hat hU hok) (evF (nF rfl) ?_)
  obtain ⟨b, ⟨e1, e2, e3⟩, hb⟩ := bent_f hU hpl hfit h3 h2 hy
  have hbad := e3 _ _ _ hat hok
  refine Ev.bind hb (evT (by first | rfl | trivial) (Ev.bind (checked_c (o := b) (by omega) hi (e1.trans hat) e2 hbad) (evT rfl ?_)))
  obtain ⟨m1, m2⟩ := mxF_ne y hy
  have hx := xor_ne (cmt_U (v : Int) l s) m1 m2
  refine Ev.bind (checked_c (o := o) (by omega) hi hat hU (chk_root hok hx)) (evT rfl ?_)
  have hcj : Ev (fun k => private_Check.m k (cmt (v : Int) l s) (l.length : Int) ([b][0])) 470 := by
    have := pcheck_f (r := cmt (v : Int) l s) (n := l.length) (i := i) (o := b) (by omega) hi (e1.trans hat) e2
    rwa [hbad] at this
  have hw := whole_of (L := [b]) (by simp) (pwhole_bad (r := cmt (v : Int) l s) (n := l.length) (by omega) (L := [b]) (by simp) (j := 0) (by simp) (c := 470) (by decide) hcj (fun i h hlt => absurd hlt (by omega)))
  refine Ev.bind hw (Ev.now _)
end Go.Proofs.YtchpkglnmpmcmaaQ
