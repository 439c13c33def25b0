/- SealOneChange: the plain law (over the equations of X03C). -/
import Derived.Test.YtbkjdfemamehcaaQEx
import Derived.Test.YtbkjdfemamehcaaQS1
import Derived.Test.YtbkjdfemamehcaaX03C
namespace Go.Proofs.YtbkjdfemamehcaaQ
set_option linter.unusedVariables false
set_option linter.unusedSimpArgs false
open Go Go.RowKit Go.Proofs.Ytbkjdfemamehcaa.P03 Go.Proofs.Ytbkjdfemamehcaa.V03 Go.Proofs.YtbkjdfemamehcaaW.PrintWords Go.Proofs.YtbkjdfemamehcaaW.PrintLast Go.Proofs.YtbkjdfemamehcaaW.PrintMore
theorem xnF {p q : Bool} (h : p = q) : ¬ ((!(p == q)) = true) := by subst h; cases p <;> decide
theorem beq_iff {a b c d : Int} (h : a = b ↔ c = d) : (a == b) = (c == d) := by rw [Bool.eq_iff_iff, beq_iff_eq, beq_iff_eq]; exact h
theorem tag_e {a : Int} {l : List Int} (ha : U a) : Ev (fun k => seal_Tag.m k a l) (seal_stepv a (wd l)) := by
  refine evX (fun k => seal_Tag.m_eq k _ _) (Ev.bind (a := wd l) (Ev.now _) (Ev.bind (step_e ha (wd_U l)) (Ev.now _)))
theorem idx_e {z n : Nat} (h1 : 1 ≤ n) (hn : n ≤ 200) : IntKind.wrap IntKind.i64 (Go.Vx.divF BinOp.rem IntKind.u64 (z : Int) (IntKind.wrap IntKind.u64 (n : Int))) = ((z % n : Nat) : Int) := by
  have e : IntKind.wrap IntKind.u64 (n : Int) = (n : Int) := by rw [u64_wrap]; omega
  have hm := Nat.mod_lt z h1
  rw [e, rem_tmod, Int.tmod_eq_emod_of_nonneg (by omega), wrap_i64']
  rw [show (z : Int) % (n : Int) = ((z % n : Nat) : Int) by omega, w64 (by omega) (by omega)]
theorem one_of {l b : List Int} (hl : ∀ x ∈ l, S x) (hb : ∀ x ∈ b, B8 x) {z : Int × Int × Int × Int} (z0 : U z.1) (z1 : U z.2.1) (z2 : U z.2.2.1) (z3 : U z.2.2.2) : Ev (fun k => plexuslaw03_SealOneChange.m k l b z) true := by
  obtain ⟨a0, a1, a2, a3⟩ := z
  obtain ⟨y, rfl, hy⟩ := U.nat z3
  refine evX (fun k => plexuslaw03_SealOneChange.m_eq k _ _ _) (Ev.bind examples03 (evF (by decide) ?_))
  refine evX (fun k => plexuslaw03_SealOneChange.j0_eq k _ _ _ _) ?_
  by_cases h1 : (l.length : Int) > 200
  · exact evT (dT h1) (Ev.now _)
  by_cases h2 : (b.length : Int) > 200
  · exact evF (dF h1) (evT (dT h2) (Ev.now _))
  refine evF (dF h1) (evF (dF h2) ?_)
  have z0' : U a0 := z0
  have z1' : U a1 := z1
  have z2' : U a2 := z2
  have j3 : Ev (fun k => plexuslaw03_SealOneChange.j3 k b (a0, a1, a2, (y : Int)) true) true := by
    refine evX (fun k => plexuslaw03_SealOneChange.j3_eq k _ _ _) ?_
    by_cases h0 : b.length = 0
    · exact evF (dF (by omega)) (Ev.now _)
    have ei := idx_e (z := y) (n := b.length) (by omega) (by omega)
    have hi : y % b.length < b.length := Nat.mod_lt _ (by omega)
    show Ev (fun k => _) true
    simp only [ei]
    generalize y % b.length = i at hi
    have hv : B8 (IntKind.wrap IntKind.u8 a0) := by rw [show IntKind.wrap IntKind.u8 a0 = a0 % 256 from rfl]; exact ⟨by omega, by omega⟩
    obtain ⟨p, q, e1, e2, e3⟩ := bytes_set hb (by omega) hi hv
    have eg : List.getD (b.set i (IntKind.wrap IntKind.u8 a0)) (Int.toNat (i : Int)) (Int.ofNat 0) = IntKind.wrap IntKind.u8 a0 := by
      rw [Int.toNat_natCast, List.getD_eq_getElem?_getD, List.getElem?_set_self hi]; rfl
    have eb : List.getD b (Int.toNat (i : Int)) (Int.ofNat 0) = b.getD i 0 := rfl
    rw [Int.toNat_natCast] at eg eb
    simp only [Int.toNat_natCast, eg, eb]
    refine evT (dT (by omega)) (evF (by rw [u64_wrap]; omega) (evT (by omega) (evT (by omega) (evT (by omega) ?_))))
    refine Ev.bind (a := p) ⟨0, fun k _ => e1⟩ (Ev.bind (a := q) ⟨0, fun k _ => e2⟩ ?_)
    refine evT (by omega) (evT (by omega) (evT (by omega) (evT (by rw [List.length_set]; omega) (evF (xnF (beq_iff e3)) (Ev.now _)))))
  have j2 : Ev (fun k => plexuslaw03_SealOneChange.j2 k l b (a0, a1, a2, (y : Int)) true) true := by
    refine evX (fun k => plexuslaw03_SealOneChange.j2_eq k _ _ _ _) ?_
    by_cases h0 : l.length = 0
    · exact evF (dF (by omega)) j3
    have ei := idx_e (z := y) (n := l.length) (by omega) (by omega)
    have hi : y % l.length < l.length := Nat.mod_lt _ (by omega)
    show Ev (fun k => _) true
    simp only [ei]
    generalize y % l.length = i at hi
    have hx : S (IntKind.wrap IntKind.i64 a0) := by rw [wrap_i64']; exact S_wrap _
    have key := wd_set hi hx hl
    have eg : List.getD (l.set i (IntKind.wrap IntKind.i64 a0)) i (Int.ofNat 0) = IntKind.wrap IntKind.i64 a0 := by
      rw [List.getD_eq_getElem?_getD, List.getElem?_set_self hi]; rfl
    have eb : List.getD l i (Int.ofNat 0) = l.getD i 0 := rfl
    simp only [Int.toNat_natCast, eg, eb]
    have k1 : wd l = wd (l.set i (IntKind.wrap IntKind.i64 a0)) ↔ l.getD i 0 = IntKind.wrap IntKind.i64 a0 := by rw [eq_comm, key, eq_comm]
    refine evT (dT (by omega)) (evF (by rw [u64_wrap]; omega) (evT (by omega) (evT (by omega) (evT (by omega) ?_))))
    refine Ev.bind (a := wd l) (Ev.now _) (Ev.bind (a := wd (l.set i (IntKind.wrap IntKind.i64 a0))) (Ev.now _) ?_)
    refine evT (by omega) (evT (by omega) (evT (by omega) (evT (by rw [List.length_set]; omega) (evF (xnF (beq_iff k1)) ?_))))
    refine Ev.bind (tag_e z1') (Ev.bind (tag_e z1') ?_)
    refine evT (by omega) (evT (by omega) (evT (by omega) (evT (by rw [List.length_set]; omega) (evF (xnF (beq_iff ?_)) j3))))
    rw [stepv_right z1' (wd_U _) (wd_U _)]; exact k1
  refine evX (fun k => plexuslaw03_SealOneChange.j1_eq k _ _ _ _) ?_
  refine Ev.bind (sjoin_e z0' z1') (Ev.bind (sjoin_e z2' z1') (evF (xnF (beq_iff (jn_left z0' z2' z1'))) ?_))
  refine Ev.bind (sjoin_e z0' z1') (Ev.bind (sjoin_e z0' z2') (evF (xnF (beq_iff (jn_right z0' z1' z2'))) ?_))
  exact Ev.bind (tag_e z0') (Ev.bind (tag_e z1') (evF (xnF (beq_iff (stepv_left (wd_U _) z0' z1'))) j2))
end Go.Proofs.YtbkjdfemamehcaaQ
