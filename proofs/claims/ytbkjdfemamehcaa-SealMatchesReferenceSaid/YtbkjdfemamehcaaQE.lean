/- The examples of the laws of seal come out true. -/
import Derived.Test.YtbkjdfemamehcaaQP
import Derived.Test.YtbkjdfemamehcaaX03E
namespace Go.Proofs.YtbkjdfemamehcaaQ
set_option linter.unusedVariables false
set_option linter.unusedSimpArgs false
open Go Go.RowKit Go.Proofs.Ytbkjdfemamehcaa.P03 Go.Proofs.Ytbkjdfemamehcaa.V03 Go.Proofs.YtbkjdfemamehcaaW.PrintWords Go.Proofs.YtbkjdfemamehcaaW.PrintLast Go.Proofs.YtbkjdfemamehcaaW.PrintMore
theorem inc64 {i : Nat} (h : i < 1000000) : IntKind.wrap IntKind.i64 ((i : Int) + 1) = ((i + 1 : Nat) : Int) := by rw [wrap_i64', w64 (by omega) (by omega)]; omega
theorem same3_l0 (l : List Int) (hl : l.length ≤ 100000) : ∀ (m i : Nat), l.length - i = m → i ≤ l.length → Ev2 (fun n k => plexusref03_Same.l0 n k l l (i : Int)) true
  | 0, i, hm, hi => by
    refine Ev2.step (fun n k => plexusref03_Same.l0_succ n k _ _ _) ?_
    exact ev2F (dF (by omega)) (Ev2.now _)
  | m + 1, i, hm, hi => by
    refine Ev2.step (fun n k => plexusref03_Same.l0_succ n k _ _ _) ?_
    rw [inc64 (by omega)]
    exact ev2T (dT (by omega)) (ev2T (by omega) (ev2T (by omega) (ev2T (by omega) (ev2T (by omega) (ev2F (nF rfl) (same3_l0 l hl m (i + 1) (by omega) (by omega)))))))
theorem same3_f (l : List Int) (hl : l.length ≤ 100000) : Ev (fun k => plexusref03_Same.m k l l) true := by
  refine evX (fun k => plexusref03_Same.m_eq k _ _) (evF (nF rfl) ?_)
  exact (same3_l0 l hl _ 0 rfl (by omega)).diag
theorem opened_m {l : List Int} {i : Nat} (hi : i < l.length) (hm : l.length ≤ 65536) (hl : ∀ x ∈ l, U x) : Ev (fun k => plexuslaw03_opened.m k l (i : Int)) (path 0 l i, 0) := by
  refine evX (fun k => plexuslaw03_opened.m_eq k _ _) (Ev.bind (open_f hi hm hl) (Ev.now _))
theorem sjoin_e {a b : Int} (ha : U a) (hb : U b) : Ev (fun k => seal_Join.m k a b) (jn a b) := ⟨0, fun k _ => sjoin_m k ha hb⟩
theorem step_e {a b : Int} (ha : U a) (hb : U b) : Ev (fun k => seal_Step.m k a b) (seal_stepv a b) := by
  refine evX (fun k => seal_Step.m_eq k _ _) (Ev.bind (a := seal_stepv a b) ⟨0, fun k _ => sstep_m k ha hb⟩ (Ev.now _))
theorem U_lit {n : Nat} (h : n < 18446744073709551616) : U (n : Int) := ⟨by omega, by omega⟩
theorem U567 : ∀ x ∈ ([5, 6, 7] : List Int), U x := fun x hx => by
  simp at hx
  rcases hx with rfl | rfl | rfl <;> exact ⟨by decide, by decide⟩
theorem half3 : halfN 3 = 2 := by unfold halfN; rfl
theorem half2 : halfN 2 = 1 := by unfold halfN; rfl
theorem root2 (a b : Int) : root 0 [a, b] = jn a b := by
  rw [root_big (n := 2) rfl (by omega), half2]
  show jn (root 0 [a]) (root 0 [b]) = _
  rw [root_one, root_one]
theorem root3 (a b c : Int) : root 0 [a, b, c] = jn (jn a b) c := by
  rw [root_big (n := 3) rfl (by omega), half3]
  show jn (root 0 [a, b]) (root 0 [c]) = _
  rw [root2, root_one]
theorem path32 (a b c : Int) : path 0 [a, b, c] 2 = [jn a b] := by
  rw [path_r (n := 3) rfl (by omega) (by rw [half3]; omega), half3]
  show path 0 [c] 0 ++ [root 0 [a, b]] = _
  rw [path_one (by simp), root2]; rfl
theorem path30 (a b c : Int) : path 0 [a, b, c] 0 = [b, c] := by
  rw [path_l (n := 3) rfl (by omega) (by rw [half3]; omega), half3]
  show path 0 [a, b] 0 ++ [root 0 [c]] = _
  rw [path_l (n := 2) rfl (by omega) (by rw [half2]; omega), half2]
  show (path 0 [a] 0 ++ [root 0 [b]]) ++ [root 0 [c]] = _
  rw [path_one (by simp), root_one, root_one]; rfl
theorem undo_A : Ev (fun k => seal_undo.m k 13787848793156543929) 10871156337175269513 := by
  refine evX (fun k => seal_undo.m_eq k _) ?_
  have h : Ev2 (fun n k => seal_undo.l0 n k 13787848793156543929 13787848793156543929 0) 10871156337175269513 := by
    refine Ev2.step (fun n k => seal_undo.l0_succ n k _ _ _) (ev2T (by decide) ?_)
    rw [show IntKind.wrap IntKind.u64 (13787848793156543929 * IntKind.wrap IntKind.u64 (2 - IntKind.wrap IntKind.u64 (13787848793156543929 * 13787848793156543929))) = 16496376113027886985 from by decide +kernel, show IntKind.wrap IntKind.i64 (0 + 1) = 1 from by decide +kernel]
    refine Ev2.step (fun n k => seal_undo.l0_succ n k _ _ _) (ev2T (by decide) ?_)
    rw [show IntKind.wrap IntKind.u64 (16496376113027886985 * IntKind.wrap IntKind.u64 (2 - IntKind.wrap IntKind.u64 (13787848793156543929 * 16496376113027886985))) = 2203917495349842057 from by decide +kernel, show IntKind.wrap IntKind.i64 (1 + 1) = 2 from by decide +kernel]
    refine Ev2.step (fun n k => seal_undo.l0_succ n k _ _ _) (ev2T (by decide) ?_)
    rw [show IntKind.wrap IntKind.u64 (2203917495349842057 * IntKind.wrap IntKind.u64 (2 - IntKind.wrap IntKind.u64 (13787848793156543929 * 2203917495349842057))) = 2756543469426151561 from by decide +kernel, show IntKind.wrap IntKind.i64 (2 + 1) = 3 from by decide +kernel]
    refine Ev2.step (fun n k => seal_undo.l0_succ n k _ _ _) (ev2T (by decide) ?_)
    rw [show IntKind.wrap IntKind.u64 (2756543469426151561 * IntKind.wrap IntKind.u64 (2 - IntKind.wrap IntKind.u64 (13787848793156543929 * 2756543469426151561))) = 10871156337175269513 from by decide +kernel, show IntKind.wrap IntKind.i64 (3 + 1) = 4 from by decide +kernel]
    refine Ev2.step (fun n k => seal_undo.l0_succ n k _ _ _) (ev2T (by decide) ?_)
    rw [show IntKind.wrap IntKind.u64 (10871156337175269513 * IntKind.wrap IntKind.u64 (2 - IntKind.wrap IntKind.u64 (13787848793156543929 * 10871156337175269513))) = 10871156337175269513 from by decide +kernel, show IntKind.wrap IntKind.i64 (4 + 1) = 5 from by decide +kernel]
    refine Ev2.step (fun n k => seal_undo.l0_succ n k _ _ _) (ev2T (by decide) ?_)
    rw [show IntKind.wrap IntKind.u64 (10871156337175269513 * IntKind.wrap IntKind.u64 (2 - IntKind.wrap IntKind.u64 (13787848793156543929 * 10871156337175269513))) = 10871156337175269513 from by decide +kernel, show IntKind.wrap IntKind.i64 (5 + 1) = 6 from by decide +kernel]
    refine Ev2.step (fun n k => seal_undo.l0_succ n k _ _ _) (ev2F (by decide) (Ev2.now _))
  exact h.diag
theorem undo_B : Ev (fun k => seal_undo.m k 11400714819323198485) 17428512612931826493 := by
  refine evX (fun k => seal_undo.m_eq k _) ?_
  have h : Ev2 (fun n k => seal_undo.l0 n k 11400714819323198485 11400714819323198485 0) 17428512612931826493 := by
    refine Ev2.step (fun n k => seal_undo.l0_succ n k _ _ _) (ev2T (by decide) ?_)
    rw [show IntKind.wrap IntKind.u64 (11400714819323198485 * IntKind.wrap IntKind.u64 (2 - IntKind.wrap IntKind.u64 (11400714819323198485 * 11400714819323198485))) = 15862969329784324093 from by decide +kernel, show IntKind.wrap IntKind.i64 (0 + 1) = 1 from by decide +kernel]
    refine Ev2.step (fun n k => seal_undo.l0_succ n k _ _ _) (ev2T (by decide) ?_)
    rw [show IntKind.wrap IntKind.u64 (15862969329784324093 * IntKind.wrap IntKind.u64 (2 - IntKind.wrap IntKind.u64 (11400714819323198485 * 15862969329784324093))) = 10449034103236961085 from by decide +kernel, show IntKind.wrap IntKind.i64 (1 + 1) = 2 from by decide +kernel]
    refine Ev2.step (fun n k => seal_undo.l0_succ n k _ _ _) (ev2T (by decide) ?_)
    rw [show IntKind.wrap IntKind.u64 (10449034103236961085 * IntKind.wrap IntKind.u64 (2 - IntKind.wrap IntKind.u64 (11400714819323198485 * 10449034103236961085))) = 14592201029865403197 from by decide +kernel, show IntKind.wrap IntKind.i64 (2 + 1) = 3 from by decide +kernel]
    refine Ev2.step (fun n k => seal_undo.l0_succ n k _ _ _) (ev2T (by decide) ?_)
    rw [show IntKind.wrap IntKind.u64 (14592201029865403197 * IntKind.wrap IntKind.u64 (2 - IntKind.wrap IntKind.u64 (11400714819323198485 * 14592201029865403197))) = 6782847518758105917 from by decide +kernel, show IntKind.wrap IntKind.i64 (3 + 1) = 4 from by decide +kernel]
    refine Ev2.step (fun n k => seal_undo.l0_succ n k _ _ _) (ev2T (by decide) ?_)
    rw [show IntKind.wrap IntKind.u64 (6782847518758105917 * IntKind.wrap IntKind.u64 (2 - IntKind.wrap IntKind.u64 (11400714819323198485 * 6782847518758105917))) = 17428512612931826493 from by decide +kernel, show IntKind.wrap IntKind.i64 (4 + 1) = 5 from by decide +kernel]
    refine Ev2.step (fun n k => seal_undo.l0_succ n k _ _ _) (ev2T (by decide) ?_)
    rw [show IntKind.wrap IntKind.u64 (17428512612931826493 * IntKind.wrap IntKind.u64 (2 - IntKind.wrap IntKind.u64 (11400714819323198485 * 17428512612931826493))) = 17428512612931826493 from by decide +kernel, show IntKind.wrap IntKind.i64 (5 + 1) = 6 from by decide +kernel]
    refine Ev2.step (fun n k => seal_undo.l0_succ n k _ _ _) (ev2F (by decide) (Ev2.now _))
  exact h.diag
theorem s34 : seal_stepv 3 4 = 7145241647154242560 := by
  rw [stepv_eq ⟨by decide, by decide⟩ ⟨by decide, by decide⟩]
  decide +kernel
theorem s00 : seal_stepv 0 0 = 0 := by
  rw [stepv_eq U0 U0]
  decide +kernel
theorem s01 : seal_stepv 0 1 ≠ 0 := by
  rw [stepv_eq U0 ⟨by decide, by decide⟩]
  decide +kernel
theorem back34 : Ev (fun k => seal_Back.m k 3 7145241647154242560) 4 := by
  refine evX (fun k => seal_Back.m_eq k _ _) (Ev.bind undo_A (Ev.bind undo_B ?_))
  rw [show IntKind.wrap IntKind.u64 (7145241647154242560 * 10871156337175269513) = 6018027433648440320 from by decide +kernel]
  exact ⟨0, fun k _ => congrArg some (by decide +kernel)⟩
end Go.Proofs.YtbkjdfemamehcaaQ
