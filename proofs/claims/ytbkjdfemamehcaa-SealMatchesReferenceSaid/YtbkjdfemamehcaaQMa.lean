/- SealMatchesReference: the plain law (over the equations of X03M). -/
import Derived.Test.YtbkjdfemamehcaaQRm
import Derived.Test.YtbkjdfemamehcaaX03M
namespace Go.Proofs.YtbkjdfemamehcaaQ
set_option linter.unusedVariables false
set_option linter.unusedSimpArgs false
open Go Go.RowKit Go.Proofs.Ytbkjdfemamehcaa.P03 Go.Proofs.Ytbkjdfemamehcaa.V03 Go.Proofs.YtbkjdfemamehcaaW.PrintWords Go.Proofs.YtbkjdfemamehcaaW.PrintLast Go.Proofs.YtbkjdfemamehcaaW.PrintMore
theorem tag_s {a : Int} {l : List Int} (ha : U a) : Ev (fun k => seal_Tag.m k a l) (seal_stepv a (wd l)) := by
  refine evX (fun k => seal_Tag.m_eq k _ _) (Ev.bind (a := wd l) (Ev.now _) (Ev.bind (step_e ha (wd_U l)) (Ev.now _)))
theorem tag_r {a : Int} {l : List Int} (ha : U a) (hl : l.length ≤ 100000) : Ev (fun k => plexusref03_Tag.m k a l) (seal_stepv a (wd l)) := by
  refine evX (fun k => plexusref03_Tag.m_eq k _ _) (Ev.bind (rwords_f l hl) (Ev.bind ⟨0, fun k _ => rstep_m k ha (wd_U l)⟩ (Ev.now _)))
theorem back_both (a b : Int) : ∃ v, Ev (fun k => seal_Back.m k a b) v ∧ Ev (fun k => plexusref03_Back.m k a b) v :=
  ⟨_, evX (fun k => seal_Back.m_eq k _ _) (Ev.bind undo_A (Ev.bind undo_B (Ev.now _))), evX (fun k => plexusref03_Back.m_eq k _ _) (Ev.bind inv_A (Ev.bind inv_B (Ev.now _)))⟩
theorem root_both {l : List Int} (hm : l.length ≤ 65536) (hl : ∀ x ∈ l, U x) : ∃ v, Ev (fun k => seal_Root.f k l) v ∧ Ev (fun k => plexusref03_Root.f k l) v := by
  by_cases h : l.length = 0
  · obtain rfl : l = [] := List.length_eq_zero_iff.1 h
    refine ⟨wd [], root0, ?_⟩
    have hw : Ev (fun k => plexusref03_Words.f k []) (wd []) := by
      refine Ev.step (g := fun k => plexusref03_Words.f k []) (f := fun k => Option.bind (plexusref03_Step.f 123610861172083 (IntKind.u64.wrap ((([] : List Int).length : Int)))) fun t325 => (some t325)) (fun k => rfl) ?_
      exact Ev.bind (a := wd []) ⟨0, fun k _ => rfl⟩ (Ev.now _)
    refine Ev.step (fun k => by rw [plexusref03_Root.f]) ?_
    exact evT rfl (Ev.bind hw (Ev.now _))
  · exact ⟨_, root_f _ l rfl (by omega) hm hl, rroot_f _ l rfl (by omega) hm hl⟩
theorem loop_m (a2 : Int × Int × (Int × List Int) × Int × Int) (d : List Int) (hd : d.length ≤ 1000) (hu : ∀ x ∈ d, U x) (v : Bool) (hj : Ev (fun k => plexuslaw03_SealMatchesReference.j0 k a2 true d) v) :
    ∀ (m : Nat) (i : Int), (20 - i).toNat = m → -1 ≤ i → i ≤ 20 → Ev2 (fun n k => plexuslaw03_SealMatchesReference.l0 n k a2 true d i) v := by
  intro m
  induction m with
  | zero =>
    intro i hm h1 h2
    refine Ev2.step (fun n k => plexuslaw03_SealMatchesReference.l0_succ n k _ _ _ _) ?_
    by_cases q : i ≤ (d.length : Int)
    · exact ev2T (dT q) (ev2F (dF (by omega)) (Ev2.of hj))
    · exact ev2F (dF q) (Ev2.of hj)
  | succ m ih =>
    intro i hm h1 h2
    refine Ev2.step (fun n k => plexuslaw03_SealMatchesReference.l0_succ n k _ _ _ _) ?_
    by_cases q : i ≤ (d.length : Int)
    · refine ev2T (dT q) (ev2T (dT (by omega)) ?_)
      have key : ∃ r : List Int × Int, r.1.length ≤ 100000 ∧ Ev (fun k => plexuslaw03_opened.m k d i) r ∧ Ev (fun k => plexusref03_OpenIn.m k d i) r := by
        by_cases o : i < 0 ∨ (d.length : Int) ≤ i
        · exact ⟨_, by simp, open_out o, ropen_out o⟩
        · obtain ⟨I, rfl⟩ := Int.eq_ofNat_of_zero_le (a := i) (by omega)
          have := path_le 0 d.length d rfl (by omega) I
          exact ⟨_, by show (path 0 d I).length ≤ 100000; omega, opened_m (i := I) (by omega) (by omega) hu, ropen_f (i := I) (by omega) (by omega) hu⟩
      obtain ⟨r, h3, h4, h5⟩ := key
      refine Ev2.bind h4 (Ev2.bind h5 (ev2F (nF rfl) (Ev2.bind (same3_f _ h3) (ev2F (notF rfl) ?_))))
      rw [wrap_i64', w64 (by omega) (by omega)]
      exact ih (i + 1) (by omega) (by omega) (by omega)
    · exact ev2F (dF q) (Ev2.of hj)
theorem matches_of {l b : List Int} (hb : ∀ x ∈ b, B8 x) {z : Int × Int × (Int × List Int) × Int × Int} (z0 : U z.1) (z1 : U z.2.1) (hp : ∀ x ∈ z.2.2.1.2, U x) (z4 : U z.2.2.2.2) : Ev (fun k => plexuslaw03_SealMatchesReference.m k l b z) true := by
  refine evX (fun k => plexuslaw03_SealMatchesReference.m_eq k _ _ _) (Ev.bind examples03 (evF (by decide) ?_))
  by_cases h1 : (l.length : Int) > 200
  · exact evT (dT h1) (Ev.now _)
  by_cases h2 : (b.length : Int) > 200
  · exact evF (dF h1) (evT (dT h2) (Ev.now _))
  by_cases h3 : (z.2.2.1.2.length : Int) > 100
  · exact evF (dF h1) (evF (dF h2) (evT (dT h3) (Ev.now _)))
  refine evF (dF h1) (evF (dF h2) (evF (dF h3) ?_))
  have en : ∃ n : Nat, n < 300 ∧ IntKind.wrap IntKind.i64 (Go.Vx.divF BinOp.rem IntKind.u64 (IntKind.wrap IntKind.u64 z.2.2.2.1) 300) = (n : Int) := by
    refine ⟨(z.2.2.2.1 % 18446744073709551616 % 300).toNat, by omega, ?_⟩
    rw [rem_tmod, u64_wrap, Int.tmod_eq_emod_of_nonneg (by omega), wrap_i64', w64 (by omega) (by omega)]
    omega
  obtain ⟨n, hn, en⟩ := en
  rw [en]
  obtain ⟨d, d1, d2, d3⟩ := grown_f (n := n) (by omega) (l := z.2.2.1.2) (by omega) hp
  obtain ⟨bv, b1, b2⟩ := back_both z.1 z.2.1
  obtain ⟨rv, r1, r2⟩ := root_both (l := d) (by omega) d2
  refine Ev.bind d3 (Ev.bind (step_e z0 z1) (Ev.bind ⟨0, fun k _ => rstep_m k z0 z1⟩ (evF (nF rfl) ?_)))
  refine Ev.bind b1 (Ev.bind b2 (evF (nF rfl) ?_))
  refine Ev.bind (a := wd l) (Ev.now _) (Ev.bind (rwords_f l (by omega)) (evF (nF rfl) ?_))
  rw [sbytes_f (l := b) (by omega)]
  refine Ev.bind (Ev.now _) (Ev.bind (rbytes_f (l := b) (by omega) hb) (evF (nF rfl) ?_))
  refine Ev.bind (sjoin_e z0 z1) (Ev.bind (rjoin_m z0 z1) (evF (nF rfl) ?_))
  refine Ev.bind (tag_s z0) (Ev.bind (tag_r z0 (by omega)) (evF (nF rfl) ?_))
  refine Ev.bind r1 (Ev.bind r2 (evF (nF rfl) ?_))
  obtain ⟨v1, c1, c2⟩ := ck_both (r := z.1) (lf := z.2.2.2.2) (n := z.2.2.1.1) (i := z.2.2.2.1) hp (by omega) z4
  obtain ⟨v2, c3, c4⟩ := ck_both (r := z.1) (lf := z.2.2.2.2) (n := (d.length : Int)) (i := z.2.2.2.1) hp (by omega) z4
  have hj : Ev (fun k => plexuslaw03_SealMatchesReference.j0 k z true d) true := by
    refine evX (fun k => plexuslaw03_SealMatchesReference.j0_eq k _ _ _) ?_
    exact Ev.bind c1 (Ev.bind c2 (evF (nF rfl) (Ev.bind c3 (Ev.bind c4 (evF (nF rfl) (Ev.now _))))))
  exact (loop_m z d (by omega) d2 true hj _ (-1) rfl (by omega) (by omega)).diag
end Go.Proofs.YtbkjdfemamehcaaQ
