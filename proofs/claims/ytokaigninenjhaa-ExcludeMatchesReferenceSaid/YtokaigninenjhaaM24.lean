/- Functions as the kernel can run them, out of their equations; printed by a tool. -/
import Derived.Test.YtokaigninenjhaaX24Z
import Derived.Test.YtokaigninenjhaaM22
namespace Go.Proofs.Ytokaigninenjhaa.V22
open Go Go.Vx Go.Proofs
set_option linter.unusedVariables false
set_option linter.unusedSimpArgs false
set_option maxRecDepth 100000
set_option maxHeartbeats 4000000
def exclude_Right.c (k : Nat) (a0 : Int × Int × Int × Int) : Option (Int) := (if (a0.fst != 2) = true then some (1) else (if decide (a0.snd.snd.fst < 2) = true then some (1) else (if decide (a0.snd.snd.fst ≥ a0.snd.fst) = true then some (1) else (if decide (a0.snd.fst > 100) = true then some (1) else (if decide (a0.snd.snd.snd < 1) = true then some (1) else (if (decide (a0.snd.snd.snd > 20)) = true then some (1) else some (0)))))))
theorem exclude_Right.m_c : exclude_Right.m = exclude_Right.c := by
  funext k a0
  rw [exclude_Right.m_eq, exclude_Right.c]
def exclude_Blocks.cl0 (k : Nat) : Nat → (Int) → (Int) → (Int) → (Int) → Option ((Int × Int) × Int)
  | 0, _, _, _, _ => none
  | n0 + 1, v2, v3, v0, v1 => (if (v1 != 0) = true then (if v1 = 0 then none else (exclude_Blocks.cl0 k n0 v2 v3 (v1) (divF BinOp.rem IntKind.i64 v0 v1))) else (if v0 = 0 then none else (if v0 = 0 then none else some (((divF BinOp.quo IntKind.i64 v2 v0, divF BinOp.quo IntKind.i64 v3 v0), 0)))))
theorem exclude_Blocks.l0_c (k : Nat) : ∀ (n0 : Nat) (v2 : Int) (v3 : Int) (v0 : Int) (v1 : Int), exclude_Blocks.l0 n0 k v2 v3 v0 v1 = exclude_Blocks.cl0 k n0 v2 v3 v0 v1
  | 0, _, _, _, _ => rfl
  | n0 + 1, v2, v3, v0, v1 => by
    rw [exclude_Blocks.l0_succ, exclude_Blocks.cl0]
    simp only [exclude_Blocks.l0_c k n0]
def exclude_Blocks.cj1 (k : Nat) (v2 : Int) (v3 : Int) : Option ((Int × Int) × Int) := (exclude_Blocks.cl0 k k v2 v3 (v2) (v3))
theorem exclude_Blocks.j1_c (k : Nat) (v2 : Int) (v3 : Int) : exclude_Blocks.j1 k v2 v3 = exclude_Blocks.cj1 k v2 v3 := by
  rw [exclude_Blocks.j1_eq, exclude_Blocks.cj1]
  simp only [exclude_Blocks.l0_c k k]
def exclude_Blocks.cj0 (k : Nat) (a0 : Int × Int × Int × Int) (a1 : Int) : Option ((Int × Int) × Int) := (if (a1 == 0) = true then (exclude_Blocks.cj1 k (IntKind.wrap IntKind.i64 (IntKind.wrap IntKind.i64 (a0.snd.snd.snd * IntKind.wrap IntKind.i64 (a0.snd.fst - 1)) * a0.snd.fst)) (IntKind.wrap IntKind.i64 (IntKind.wrap IntKind.i64 (a0.snd.snd.fst - 1) * a0.snd.snd.fst))) else (exclude_Blocks.cj1 k (IntKind.wrap IntKind.i64 (a0.snd.snd.snd * IntKind.wrap IntKind.i64 (a0.snd.fst - 1))) (IntKind.wrap IntKind.i64 (a0.snd.snd.fst - 1))))
theorem exclude_Blocks.j0_c (k : Nat) (a0 : Int × Int × Int × Int) (a1 : Int) : exclude_Blocks.j0 k a0 a1 = exclude_Blocks.cj0 k a0 a1 := by
  rw [exclude_Blocks.j0_eq, exclude_Blocks.cj0]
  simp only [exclude_Blocks.j1_c k]
def exclude_Blocks.c (k : Nat) (a0 : Int × Int × Int × Int) (a1 : Int) : Option ((Int × Int) × Int) := (Option.bind (exclude_Right.c k (a0.fst, a0.snd.fst, a0.snd.snd.fst, a0.snd.snd.snd)) fun (r146 : Int) => (if (r146 != 0) = true then some (((0, 0), 1)) else (if (a1 != 0) = true then (if (a1 != 1) = true then some (((0, 0), 1)) else (exclude_Blocks.cj0 k a0 a1 )) else (exclude_Blocks.cj0 k a0 a1 ))))
theorem exclude_Blocks.m_c : exclude_Blocks.m = exclude_Blocks.c := by
  funext k a0 a1
  rw [exclude_Blocks.m_eq, exclude_Blocks.c]
  simp only [exclude_Blocks.j0_c k, exclude_Right.m_c]
def exclude_divides.c (k : Nat) (a0 : Int × Int × Int × Int) (a1 : Int × Int × Int) : Option (Bool) := (Option.bind (exclude_Blocks.c k (a0.fst, a0.snd.fst, a0.snd.snd.fst, a0.snd.snd.snd) a1.snd.fst) fun (r7 : (Int × Int) × Int) => (if (r7.snd == 0) = true then some (r7.fst.snd != 1) else some (false)))
theorem exclude_divides.m_c : exclude_divides.m = exclude_divides.c := by
  funext k a0 a1
  rw [exclude_divides.m_eq, exclude_divides.c]
  simp only [exclude_Blocks.m_c]
def exclude_rules_1.cl0 (k : Nat) : Nat → (Int × Int × Int × Int) → (Int) → Option ((Int × Int × Int) × Bool)
  | 0, _, _ => none
  | n0 + 1, a0, v0 => (if (decide (v0 < 2)) = true then (Option.bind (exclude_divides.c k (a0.fst, a0.snd.fst, a0.snd.snd.fst, a0.snd.snd.snd) (1, v0, 0)) fun (r46 : Bool) => (if (r46) = true then some (((1, v0, 0), true)) else (exclude_rules_1.cl0 k n0 a0 (IntKind.wrap IntKind.i64 (v0 + 1))))) else some (((0, 0, 0), false)))
theorem exclude_rules_1.l0_c (k : Nat) : ∀ (n0 : Nat) (a0 : Int × Int × Int × Int) (v0 : Int), exclude_rules_1.l0 n0 k a0 v0 = exclude_rules_1.cl0 k n0 a0 v0
  | 0, _, _ => rfl
  | n0 + 1, a0, v0 => by
    rw [exclude_rules_1.l0_succ, exclude_rules_1.cl0]
    simp only [exclude_rules_1.l0_c k n0, exclude_divides.m_c]
def exclude_rules_1.c (k : Nat) (a0 : Int × Int × Int × Int) : Option ((Int × Int × Int) × Bool) := (exclude_rules_1.cl0 k k a0 (0))
theorem exclude_rules_1.m_c : exclude_rules_1.m = exclude_rules_1.c := by
  funext k a0
  rw [exclude_rules_1.m_eq, exclude_rules_1.c]
  simp only [exclude_rules_1.l0_c k k]
def exclude_excess.c (k : Nat) (a0 : Int × Int × Int × Int) : Option (Int) := some (IntKind.wrap IntKind.i64 (IntKind.wrap IntKind.i64 (a0.snd.snd.snd * IntKind.wrap IntKind.i64 (a0.snd.fst - 1)) - IntKind.wrap IntKind.i64 (a0.snd.snd.fst * IntKind.wrap IntKind.i64 (a0.snd.snd.fst - 1))))
theorem exclude_excess.m_c : exclude_excess.m = exclude_excess.c := by
  funext k a0
  rw [exclude_excess.m_eq, exclude_excess.c]
def exclude_rules_2.c (k : Nat) (a0 : Int × Int × Int × Int) : Option (Bool) := (Option.bind (exclude_excess.c k (a0.fst, a0.snd.fst, a0.snd.snd.fst, a0.snd.snd.snd)) fun (r4 : Int) => some (decide (r4 < 0)))
theorem exclude_rules_2.m_c : exclude_rules_2.m = exclude_rules_2.c := by
  funext k a0
  rw [exclude_rules_2.m_eq, exclude_rules_2.c]
  simp only [exclude_excess.m_c]
def exclude_rules_3.c (k : Nat) (a0 : Int × Int × Int × Int) : Option (Bool) := (Option.bind (exclude_excess.c k (a0.fst, a0.snd.fst, a0.snd.snd.fst, a0.snd.snd.snd)) fun (r4 : Int) => (if (r4 == 0) = true then (if (divF BinOp.rem IntKind.i64 a0.snd.fst 2 == 0) = true then (Option.bind (local_Square.c k (IntKind.wrap IntKind.i64 (a0.snd.snd.fst - a0.snd.snd.snd))) fun (r31 : Bool) => some (!r31)) else some (false)) else some (false)))
theorem exclude_rules_3.m_c : exclude_rules_3.m = exclude_rules_3.c := by
  funext k a0
  rw [exclude_rules_3.m_eq, exclude_rules_3.c]
  simp only [exclude_excess.m_c, local_Square.m_c]
def exclude_odd.c (k : Nat) (a0 : Int × Int × Int × Int) : Option (Bool) := (Option.bind (exclude_excess.c k (a0.fst, a0.snd.fst, a0.snd.snd.fst, a0.snd.snd.snd)) fun (r4 : Int) => (if (r4 == 0) = true then some (divF BinOp.rem IntKind.i64 a0.snd.fst 2 == 1) else some (false)))
theorem exclude_odd.m_c : exclude_odd.m = exclude_odd.c := by
  funext k a0
  rw [exclude_odd.m_eq, exclude_odd.c]
  simp only [exclude_excess.m_c]
def exclude_sides.c (k : Nat) (a0 : Int × Int × Int × Int) : Option (Int × Int) := (if (divF BinOp.rem IntKind.i64 a0.snd.fst 4 == 3) = true then some ((IntKind.wrap IntKind.i64 (a0.snd.snd.fst - a0.snd.snd.snd), IntKind.wrap IntKind.i64 (0 - a0.snd.snd.snd))) else some ((IntKind.wrap IntKind.i64 (a0.snd.snd.fst - a0.snd.snd.snd), a0.snd.snd.snd)))
theorem exclude_sides.m_c : exclude_sides.m = exclude_sides.c := by
  funext k a0
  rw [exclude_sides.m_eq, exclude_sides.c]
def exclude_rules_4.c (k : Nat) (a0 : Int × Int × Int × Int) (a1 : Int × Int × Int) : Option (Bool) := (Option.bind (exclude_odd.c k (a0.fst, a0.snd.fst, a0.snd.snd.fst, a0.snd.snd.snd)) fun (r5 : Bool) => (if (!r5) = true then some (false) else (Option.bind (exclude_sides.c k (a0.fst, a0.snd.fst, a0.snd.snd.fst, a0.snd.snd.snd)) fun (r11 : Int × Int) => (Option.bind (local_Hilbert.c k r11.fst r11.snd a1.snd.snd) fun (r22 : Int × Int) => (if (r22.snd == 0) = true then some (r22.fst == -1) else some (false))))))
theorem exclude_rules_4.m_c : exclude_rules_4.m = exclude_rules_4.c := by
  funext k a0 a1
  rw [exclude_rules_4.m_eq, exclude_rules_4.c]
  simp only [exclude_odd.m_c, exclude_sides.m_c, local_Hilbert.m_c]
def exclude_rules_5.c (k : Nat) (a0 : Int × Int × Int × Int) : Option ((Int × Int × Int) × Bool) := (Option.bind (exclude_odd.c k (a0.fst, a0.snd.fst, a0.snd.snd.fst, a0.snd.snd.snd)) fun (r5 : Bool) => (if (!r5) = true then some (((0, 0, 0), false)) else (Option.bind (exclude_sides.c k (a0.fst, a0.snd.fst, a0.snd.snd.fst, a0.snd.snd.snd)) fun (r13 : Int × Int) => (Option.bind (local_Solve.c k r13.fst r13.snd) fun (r22 : (Bool × (Int × Int × Int) × Int) × Int) => (if (r22.snd == 0) = true then some (((4, 0, r22.fst.snd.snd), !r22.fst.fst)) else some (((4, 0, r22.fst.snd.snd), false)))))))
theorem exclude_rules_5.m_c : exclude_rules_5.m = exclude_rules_5.c := by
  funext k a0
  rw [exclude_rules_5.m_eq, exclude_rules_5.c]
  simp only [exclude_odd.m_c, exclude_sides.m_c, local_Solve.m_c]
def exclude_Why.cl0 (k : Nat) : Nat → (Int × Int × Int × Int) → (Int) → Option ((Int × Int × Int) × Int)
  | 0, _, _ => none
  | n0 + 1, a0, v1 => (if (decide (v1 < (↑4 : Int))) = true then (if v1 = (↑0 : Int) then (Option.bind (exclude_rules_1.c k (a0.fst, a0.snd.fst, a0.snd.snd.fst, a0.snd.snd.snd)) fun (r181 : (Int × Int × Int) × Bool) => (if (r181.snd) = true then some (((r181.fst.fst, r181.fst.snd.fst, r181.fst.snd.snd), 0)) else (exclude_Why.cl0 k n0 a0 (IntKind.wrap IntKind.i64 (v1 + 1))))) else (if v1 = (↑(0 + 1) : Int) then (Option.bind (exclude_rules_2.c k (a0.fst, a0.snd.fst, a0.snd.snd.fst, a0.snd.snd.snd)) fun (r210 : Bool) => (if (r210) = true then some (((2, 0, 0), 0)) else (exclude_Why.cl0 k n0 a0 (IntKind.wrap IntKind.i64 (v1 + 1))))) else (if v1 = (↑(0 + 1 + 1) : Int) then (Option.bind (exclude_rules_3.c k (a0.fst, a0.snd.fst, a0.snd.snd.fst, a0.snd.snd.snd)) fun (r242 : Bool) => (if (r242) = true then some (((3, 0, 0), 0)) else (exclude_Why.cl0 k n0 a0 (IntKind.wrap IntKind.i64 (v1 + 1))))) else (if v1 = (↑(0 + 1 + 1 + 1) : Int) then (Option.bind (exclude_rules_5.c k (a0.fst, a0.snd.fst, a0.snd.snd.fst, a0.snd.snd.snd)) fun (r268 : (Int × Int × Int) × Bool) => (if (r268.snd) = true then some (((r268.fst.fst, r268.fst.snd.fst, r268.fst.snd.snd), 0)) else (exclude_Why.cl0 k n0 a0 (IntKind.wrap IntKind.i64 (v1 + 1))))) else none)))) else some (((0, 0, 0), 4)))
theorem exclude_Why.l0_c (k : Nat) : ∀ (n0 : Nat) (a0 : Int × Int × Int × Int) (v1 : Int), exclude_Why.l0 n0 k a0 v1 = exclude_Why.cl0 k n0 a0 v1
  | 0, _, _ => rfl
  | n0 + 1, a0, v1 => by
    rw [exclude_Why.l0_succ, exclude_Why.cl0]
    simp only [exclude_Why.l0_c k n0, exclude_rules_1.m_c, exclude_rules_2.m_c, exclude_rules_3.m_c, exclude_rules_5.m_c]
def exclude_Why.c (k : Nat) (a0 : Int × Int × Int × Int) : Option ((Int × Int × Int) × Int) := (Option.bind (exclude_Right.c k (a0.fst, a0.snd.fst, a0.snd.snd.fst, a0.snd.snd.snd)) fun (r5 : Int) => (if (r5 != 0) = true then some (((0, 0, 0), r5)) else (exclude_Why.cl0 k k a0 (0))))
theorem exclude_Why.m_c : exclude_Why.m = exclude_Why.c := by
  funext k a0
  rw [exclude_Why.m_eq, exclude_Why.c]
  simp only [exclude_Why.l0_c k k, exclude_Right.m_c]
def exclude_Check.c (k : Nat) (a0 : Int × Int × Int × Int) (a1 : Int × Int × Int) : Option (Int) := (Option.bind (exclude_Right.c k (a0.fst, a0.snd.fst, a0.snd.snd.fst, a0.snd.snd.snd)) fun (r5 : Int) => (if (r5 != 0) = true then some (r5) else (if decide (a1.fst < 1) = true then some (240) else (if decide (a1.fst > (↑4 : Int)) = true then some (240) else (if IntKind.wrap IntKind.i64 (a1.fst - 1) = (↑0 : Int) then (Option.bind (exclude_divides.c k (a0.fst, a0.snd.fst, a0.snd.snd.fst, a0.snd.snd.snd) (a1.fst, a1.snd.fst, a1.snd.snd)) fun (r138 : Bool) => (if (!r138) = true then some (240) else some (0))) else (if IntKind.wrap IntKind.i64 (a1.fst - 1) = (↑(0 + 1) : Int) then (Option.bind (exclude_rules_2.c k (a0.fst, a0.snd.fst, a0.snd.snd.fst, a0.snd.snd.snd)) fun (r163 : Bool) => (if (!r163) = true then some (240) else some (0))) else (if IntKind.wrap IntKind.i64 (a1.fst - 1) = (↑(0 + 1 + 1) : Int) then (Option.bind (exclude_rules_3.c k (a0.fst, a0.snd.fst, a0.snd.snd.fst, a0.snd.snd.snd)) fun (r190 : Bool) => (if (!r190) = true then some (240) else some (0))) else (if IntKind.wrap IntKind.i64 (a1.fst - 1) = (↑(0 + 1 + 1 + 1) : Int) then (Option.bind (exclude_rules_4.c k (a0.fst, a0.snd.fst, a0.snd.snd.fst, a0.snd.snd.snd) (a1.fst, a1.snd.fst, a1.snd.snd)) fun (r213 : Bool) => (if (!r213) = true then some (240) else some (0))) else none))))))))
theorem exclude_Check.m_c : exclude_Check.m = exclude_Check.c := by
  funext k a0 a1
  rw [exclude_Check.m_eq, exclude_Check.c]
  simp only [exclude_Right.m_c, exclude_divides.m_c, exclude_rules_2.m_c, exclude_rules_3.m_c, exclude_rules_4.m_c]
def exclude_Open.cl0 (k : Nat) : Nat → (Int) → (Int) → (Int) → (Int) → (List Int) → Option (List Int × Int)
  | 0, _, _, _, _, _ => none
  | n0 + 1, a0, a1, a2, v3, v4 => (if (decide (v3 ≤ a2)) = true then (Option.bind (exclude_Why.c k (2, a0, a1, v3)) fun (r132 : (Int × Int × Int) × Int) => (if (r132.snd == 4) = true then (if (List.length v4 + List.length [v3]) * 8 ≤ 140737488355328 then (exclude_Open.cl0 k n0 a0 a1 a2 (IntKind.wrap IntKind.i64 (v3 + 1)) (v4 ++ [v3])) else none) else (exclude_Open.cl0 k n0 a0 a1 a2 (IntKind.wrap IntKind.i64 (v3 + 1)) (v4)))) else some ((v4, 0)))
theorem exclude_Open.l0_c (k : Nat) : ∀ (n0 : Nat) (a0 : Int) (a1 : Int) (a2 : Int) (v3 : Int) (v4 : List Int), exclude_Open.l0 n0 k a0 a1 a2 v3 v4 = exclude_Open.cl0 k n0 a0 a1 a2 v3 v4
  | 0, _, _, _, _, _ => rfl
  | n0 + 1, a0, a1, a2, v3, v4 => by
    rw [exclude_Open.l0_succ, exclude_Open.cl0]
    simp only [exclude_Open.l0_c k n0, exclude_Why.m_c]
def exclude_Open.c (k : Nat) (a0 : Int) (a1 : Int) (a2 : Int) : Option (List Int × Int) := (if decide (a2 < 1) = true then some (([], 1)) else (if decide (a2 > 20) = true then some (([], 1)) else (Option.bind (exclude_Right.c k (2, a0, a1, 1)) fun (r55 : Int) => (if (r55 != 0) = true then some (([], 1)) else (exclude_Open.cl0 k k a0 a1 a2 (1) ([]))))))
theorem exclude_Open.m_c : exclude_Open.m = exclude_Open.c := by
  funext k a0 a1 a2
  rw [exclude_Open.m_eq, exclude_Open.c]
  simp only [exclude_Open.l0_c k k, exclude_Right.m_c]
def plexusref06_SameInts.cl0 (k : Nat) : Nat → (List Int) → (List Int) → (Int) → Option (Bool)
  | 0, _, _, _ => none
  | n0 + 1, a0, a1, v2 => (if (decide (v2 < (↑(List.length a0) : Int))) = true then (if 0 ≤ v2 then (if v2 < (↑(List.length a0) : Int) then (if 0 ≤ v2 then (if v2 < (↑(List.length a1) : Int) then (if (List.getD a0 (Int.toNat v2) (Int.ofNat 0) != List.getD a1 (Int.toNat v2) (Int.ofNat 0)) = true then some (false) else (plexusref06_SameInts.cl0 k n0 a0 a1 (IntKind.wrap IntKind.i64 (v2 + 1)))) else none) else none) else none) else none) else some (true))
theorem plexusref06_SameInts.l0_c (k : Nat) : ∀ (n0 : Nat) (a0 : List Int) (a1 : List Int) (v2 : Int), plexusref06_SameInts.l0 n0 k a0 a1 v2 = plexusref06_SameInts.cl0 k n0 a0 a1 v2
  | 0, _, _, _ => rfl
  | n0 + 1, a0, a1, v2 => by
    rw [plexusref06_SameInts.l0_succ, plexusref06_SameInts.cl0]
    simp only [plexusref06_SameInts.l0_c k n0]
def plexusref06_SameInts.c (k : Nat) (a0 : List Int) (a1 : List Int) : Option (Bool) := (if ((↑(List.length a0) : Int) != (↑(List.length a1) : Int)) = true then some (false) else (plexusref06_SameInts.cl0 k k a0 a1 (0)))
theorem plexusref06_SameInts.m_c : plexusref06_SameInts.m = plexusref06_SameInts.c := by
  funext k a0 a1
  rw [plexusref06_SameInts.m_eq, plexusref06_SameInts.c]
  simp only [plexusref06_SameInts.l0_c k k]
def plexuslaw24_par.c (k : Nat) (a0 : Int) (a1 : Int) (a2 : Int) : Option (Int × Int × Int × Int) := some ((2, a0, a1, a2))
theorem plexuslaw24_par.m_c : plexuslaw24_par.m = plexuslaw24_par.c := by
  funext k a0 a1 a2
  rw [plexuslaw24_par.m_eq, plexuslaw24_par.c]
def plexuslaw24_why.c (k : Nat) (a0 : Int × Int × Int × Int) : Option ((Int × Int × Int) × Int) := (Option.bind (exclude_Why.c k (a0.fst, a0.snd.fst, a0.snd.snd.fst, a0.snd.snd.snd)) fun (r4 : (Int × Int × Int) × Int) => some (((r4.fst.fst, r4.fst.snd.fst, r4.fst.snd.snd), r4.snd)))
theorem plexuslaw24_why.m_c : plexuslaw24_why.m = plexuslaw24_why.c := by
  funext k a0
  rw [plexuslaw24_why.m_eq, plexuslaw24_why.c]
  simp only [exclude_Why.m_c]
def plexuslaw24_blocks.c (k : Nat) (a0 : Int × Int × Int × Int) (a1 : Int) : Option ((Int × Int) × Int) := (Option.bind (exclude_Blocks.c k (a0.fst, a0.snd.fst, a0.snd.snd.fst, a0.snd.snd.snd) a1) fun (r5 : (Int × Int) × Int) => some (((r5.fst.fst, r5.fst.snd), r5.snd)))
theorem plexuslaw24_blocks.m_c : plexuslaw24_blocks.m = plexuslaw24_blocks.c := by
  funext k a0 a1
  rw [plexuslaw24_blocks.m_eq, plexuslaw24_blocks.c]
  simp only [exclude_Blocks.m_c]
def plexuslaw24_open.c (k : Nat) (a0 : Int) (a1 : Int) (a2 : Int) : Option (List Int × Int) := (Option.bind (exclude_Open.c k a0 a1 a2) fun (r5 : List Int × Int) => some ((r5.1, r5.snd)))
theorem plexuslaw24_open.m_c : plexuslaw24_open.m = plexuslaw24_open.c := by
  funext k a0 a1 a2
  rw [plexuslaw24_open.m_eq, plexuslaw24_open.c]
  simp only [exclude_Open.m_c]
def plexuslaw24_examples.c (k : Nat) : Option (Bool) := (Option.bind (plexuslaw24_par.c k 8 3 1) fun (r2 : Int × Int × Int × Int) => (Option.bind (plexuslaw24_why.c k (r2.fst, r2.snd.fst, r2.snd.snd.fst, r2.snd.snd.snd)) fun (r4 : (Int × Int × Int) × Int) => (if (!(r4.fst.fst == 1 && (r4.fst.snd.fst == 0 && r4.fst.snd.snd == 0) && r4.snd == 0)) = true then some (false) else (Option.bind (plexuslaw24_par.c k 16 6 1) fun (r61 : Int × Int × Int × Int) => (Option.bind (plexuslaw24_why.c k (r61.fst, r61.snd.fst, r61.snd.snd.fst, r61.snd.snd.snd)) fun (r64 : (Int × Int × Int) × Int) => (if (!(r64.fst.fst == 2 && (r64.fst.snd.fst == 0 && r64.fst.snd.snd == 0) && r64.snd == 0)) = true then some (false) else (Option.bind (plexuslaw24_par.c k 22 7 2) fun (r113 : Int × Int × Int × Int) => (Option.bind (plexuslaw24_why.c k (r113.fst, r113.snd.fst, r113.snd.snd.fst, r113.snd.snd.snd)) fun (r116 : (Int × Int × Int) × Int) => (if (!(r116.fst.fst == 3 && (r116.fst.snd.fst == 0 && r116.fst.snd.snd == 0) && r116.snd == 0)) = true then some (false) else (Option.bind (plexuslaw24_par.c k 43 7 1) fun (r152 : Int × Int × Int × Int) => (Option.bind (plexuslaw24_why.c k (r152.fst, r152.snd.fst, r152.snd.snd.fst, r152.snd.snd.snd)) fun (r155 : (Int × Int × Int) × Int) => (if (!(r155.fst.fst == 4 && (r155.fst.snd.fst == 0 && r155.fst.snd.snd == 2) && r155.snd == 0)) = true then some (false) else (Option.bind (plexuslaw24_par.c k 7 3 1) fun (r178 : Int × Int × Int × Int) => (Option.bind (plexuslaw24_why.c k (r178.fst, r178.snd.fst, r178.snd.snd.fst, r178.snd.snd.snd)) fun (r181 : (Int × Int × Int) × Int) => (if (r181.snd != 4) = true then some (false) else (Option.bind (plexuslaw24_open.c k 7 3 3) fun (r191 : List Int × Int) => (Option.bind (plexuslaw24_open.c k 8 3 6) fun (r193 : List Int × Int) => (if (r191.snd != 0) = true then some (false) else (if (r193.snd != 0) = true then some (false) else (Option.bind (plexusref06_SameInts.c k r191.fst [1, 2, 3]) fun (r306 : Bool) => (if (!r306) = true then some (false) else (Option.bind (plexusref06_SameInts.c k r193.fst [6]) fun (r346 : Bool) => (if (!r346) = true then some (false) else (Option.bind (plexuslaw24_par.c k 8 3 1) fun (r367 : Int × Int × Int × Int) => (Option.bind (plexuslaw24_blocks.c k (r367.fst, r367.snd.fst, r367.snd.snd.fst, r367.snd.snd.snd) 0) fun (r370 : (Int × Int) × Int) => (if (!(r370.fst.fst == 28 && r370.fst.snd == 3)) = true then some (false) else (Option.bind (plexuslaw24_par.c k 43 7 1) fun (r382 : Int × Int × Int × Int) => (Option.bind (exclude_Check.c k (r382.fst, r382.snd.fst, r382.snd.snd.fst, r382.snd.snd.snd) (4, 0, 3)) fun (r385 : Int) => (if (r385 == 0) = true then (Option.bind (plexuslaw24_par.c k 43 7 1) fun (r390 : Int × Int × Int × Int) => (Option.bind (exclude_Check.c k (r390.fst, r390.snd.fst, r390.snd.snd.fst, r390.snd.snd.snd) (4, 0, 5)) fun (r395 : Int) => (if (r395 == 240) = true then (Option.bind (plexuslaw24_par.c k 8 8 1) fun (r403 : Int × Int × Int × Int) => (Option.bind (exclude_Right.c k (r403.fst, r403.snd.fst, r403.snd.snd.fst, r403.snd.snd.snd)) fun (r406 : Int) => (if (r406 == 1) = true then (Option.bind (plexuslaw24_why.c k (0, 0, 0, 0)) fun (r416 : (Int × Int × Int) × Int) => some (r416.snd == 1)) else some (false)))) else some (false)))) else some (false))))))))))))))))))))))))))))))
theorem plexuslaw24_examples.m_c : plexuslaw24_examples.m = plexuslaw24_examples.c := by
  funext k
  rw [plexuslaw24_examples.m_eq, plexuslaw24_examples.c]
  simp only [exclude_Check.m_c, exclude_Right.m_c, plexuslaw24_blocks.m_c, plexuslaw24_open.m_c, plexuslaw24_par.m_c, plexuslaw24_why.m_c, plexusref06_SameInts.m_c]
end Go.Proofs.Ytokaigninenjhaa.V22
