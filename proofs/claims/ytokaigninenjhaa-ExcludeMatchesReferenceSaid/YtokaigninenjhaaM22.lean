/- Functions as the kernel can run them, out of their equations; printed by a tool. -/
import Derived.Test.YtokaigninenjhaaX22
namespace Go.Proofs.Ytokaigninenjhaa.V22
open Go Go.Vx Go.Proofs
set_option linter.unusedVariables false
set_option linter.unusedSimpArgs false
set_option maxRecDepth 100000
set_option maxHeartbeats 4000000
def local_small.c (k : Nat) (a0 : Int) : Option (Bool) := (if (a0 != 0) = true then (if decide (a0 ≥ -200) = true then some (decide (a0 ≤ 200)) else some (false)) else some (false))
theorem local_small.m_c : local_small.m = local_small.c := by
  funext k a0
  rw [local_small.m_eq, local_small.c]
def local_prime.cl0 (k : Nat) : Nat → (Int) → (Int) → Option (Bool)
  | 0, _, _ => none
  | n0 + 1, a0, v1 => (if (decide (IntKind.wrap IntKind.i64 (v1 * v1) ≤ a0)) = true then (if v1 = 0 then none else (if (divF BinOp.rem IntKind.i64 a0 v1 == 0) = true then some (false) else (local_prime.cl0 k n0 a0 (IntKind.wrap IntKind.i64 (v1 + 1))))) else some (decide (a0 > 1)))
theorem local_prime.l0_c (k : Nat) : ∀ (n0 : Nat) (a0 : Int) (v1 : Int), local_prime.l0 n0 k a0 v1 = local_prime.cl0 k n0 a0 v1
  | 0, _, _ => rfl
  | n0 + 1, a0, v1 => by
    rw [local_prime.l0_succ, local_prime.cl0]
    simp only [local_prime.l0_c k n0]
def local_prime.c (k : Nat) (a0 : Int) : Option (Bool) := (local_prime.cl0 k k a0 (2))
theorem local_prime.m_c : local_prime.m = local_prime.c := by
  funext k a0
  rw [local_prime.m_eq, local_prime.c]
  simp only [local_prime.l0_c k k]
def local_sign.c (k : Nat) (a0 : Bool) : Option (Int) := (if (a0) = true then some (-1) else some (1))
theorem local_sign.m_c : local_sign.m = local_sign.c := by
  funext k a0
  rw [local_sign.m_eq, local_sign.c]
def local_valuation.cl0 (k : Nat) : Nat → (Int) → (Int) → (Int) → Option (Int × Int)
  | 0, _, _, _ => none
  | n0 + 1, a1, v0, v2 => (if a1 = 0 then none else (if (divF BinOp.rem IntKind.i64 v0 a1 == 0) = true then (if a1 = 0 then none else (local_valuation.cl0 k n0 a1 (divF BinOp.quo IntKind.i64 v0 a1) (IntKind.wrap IntKind.i64 (v2 + 1)))) else some ((v2, v0))))
theorem local_valuation.l0_c (k : Nat) : ∀ (n0 : Nat) (a1 : Int) (v0 : Int) (v2 : Int), local_valuation.l0 n0 k a1 v0 v2 = local_valuation.cl0 k n0 a1 v0 v2
  | 0, _, _, _ => rfl
  | n0 + 1, a1, v0, v2 => by
    rw [local_valuation.l0_succ, local_valuation.cl0]
    simp only [local_valuation.l0_c k n0]
def local_valuation.c (k : Nat) (a0 : Int) (a1 : Int) : Option (Int × Int) := (local_valuation.cl0 k k a1 (a0) (0))
theorem local_valuation.m_c : local_valuation.m = local_valuation.c := by
  funext k a0 a1
  rw [local_valuation.m_eq, local_valuation.c]
  simp only [local_valuation.l0_c k k]
def local_mod.c (k : Nat) (a0 : Int) (a1 : Int) : Option (Int) := (if a1 = 0 then none else (if a1 = 0 then none else some (divF BinOp.rem IntKind.i64 (IntKind.wrap IntKind.i64 (divF BinOp.rem IntKind.i64 a0 a1 + a1)) a1)))
theorem local_mod.m_c : local_mod.m = local_mod.c := by
  funext k a0 a1
  rw [local_mod.m_eq, local_mod.c]
def local_Legendre.cl0 (k : Nat) : Nat → (Int) → (Int) → (Int) → (Int) → Option (Int × Int)
  | 0, _, _, _, _ => none
  | n0 + 1, a1, v1, v2, v3 => (if (decide (v3 > 0)) = true then (if (divF BinOp.rem IntKind.i64 v3 2 == 1) = true then (if a1 = 0 then none else (if a1 = 0 then none else (local_Legendre.cl0 k n0 a1 (divF BinOp.rem IntKind.i64 (IntKind.wrap IntKind.i64 (v1 * v2)) a1) (divF BinOp.rem IntKind.i64 (IntKind.wrap IntKind.i64 (v2 * v2)) a1) (divF BinOp.quo IntKind.i64 v3 2)))) else (if a1 = 0 then none else (local_Legendre.cl0 k n0 a1 (v1) (divF BinOp.rem IntKind.i64 (IntKind.wrap IntKind.i64 (v2 * v2)) a1) (divF BinOp.quo IntKind.i64 v3 2)))) else (if (v1 == IntKind.wrap IntKind.i64 (a1 - 1)) = true then some ((-1, 0)) else some ((v1, 0))))
theorem local_Legendre.l0_c (k : Nat) : ∀ (n0 : Nat) (a1 : Int) (v1 : Int) (v2 : Int) (v3 : Int), local_Legendre.l0 n0 k a1 v1 v2 v3 = local_Legendre.cl0 k n0 a1 v1 v2 v3
  | 0, _, _, _, _ => rfl
  | n0 + 1, a1, v1, v2, v3 => by
    rw [local_Legendre.l0_succ, local_Legendre.cl0]
    simp only [local_Legendre.l0_c k n0]
def local_Legendre.c (k : Nat) (a0 : Int) (a1 : Int) : Option (Int × Int) := (if decide (a1 < 3) = true then some ((0, 1)) else (if decide (a1 > 1000) = true then some ((0, 1)) else (Option.bind (local_prime.c k a1) fun (r43 : Bool) => (if (!r43) = true then some ((0, 1)) else (Option.bind (local_mod.c k a0 a1) fun (r54 : Int) => (local_Legendre.cl0 k k a1 (1) (r54) (divF BinOp.quo IntKind.i64 (IntKind.wrap IntKind.i64 (a1 - 1)) 2)))))))
theorem local_Legendre.m_c : local_Legendre.m = local_Legendre.c := by
  funext k a0 a1
  rw [local_Legendre.m_eq, local_Legendre.c]
  simp only [local_Legendre.l0_c k k, local_mod.m_c, local_prime.m_c]
def local_Hilbert_1.c (k : Nat) (a0 : Int) : Option (Bool) := (Option.bind (local_mod.c k a0 8) fun (r3 : Int) => (if (r3 == 3) = true then some (true) else (Option.bind (local_mod.c k a0 8) fun (r19 : Int) => some (r19 == 5))))
theorem local_Hilbert_1.m_c : local_Hilbert_1.m = local_Hilbert_1.c := by
  funext k a0
  rw [local_Hilbert_1.m_eq, local_Hilbert_1.c]
  simp only [local_mod.m_c]
def local_Hilbert.cj2 (k : Nat) (a2 : Int) (r150 : Int × Int) (r159 : Int × Int) (v3 : Int) : Option (Int × Int) := (if (divF BinOp.rem IntKind.i64 r150.fst 2 == 1) = true then (Option.bind (local_Legendre.c k r159.snd a2) fun (r247 : Int × Int) => some ((IntKind.wrap IntKind.i64 (v3 * r247.fst), 0))) else some ((v3, 0)))
theorem local_Hilbert.j2_c (k : Nat) (a2 : Int) (r150 : Int × Int) (r159 : Int × Int) (v3 : Int) : local_Hilbert.j2 k a2 r150 r159 v3 = local_Hilbert.cj2 k a2 r150 r159 v3 := by
  rw [local_Hilbert.j2_eq, local_Hilbert.cj2]
  simp only [local_Legendre.m_c]
def local_Hilbert.cj1 (k : Nat) (a2 : Int) (r150 : Int × Int) (r159 : Int × Int) (v5 : Int) : Option (Int × Int) := (if (divF BinOp.rem IntKind.i64 r159.fst 2 == 1) = true then (Option.bind (local_Legendre.c k r150.snd a2) fun (r272 : Int × Int) => (local_Hilbert.cj2 k a2 r150 r159 (IntKind.wrap IntKind.i64 (v5 * r272.fst)))) else (local_Hilbert.cj2 k a2 r150 r159 (v5)))
theorem local_Hilbert.j1_c (k : Nat) (a2 : Int) (r150 : Int × Int) (r159 : Int × Int) (v5 : Int) : local_Hilbert.j1 k a2 r150 r159 v5 = local_Hilbert.cj1 k a2 r150 r159 v5 := by
  rw [local_Hilbert.j1_eq, local_Hilbert.cj1]
  simp only [local_Hilbert.j2_c k, local_Legendre.m_c]
def local_Hilbert.cj4 (k : Nat) (r150 : Int × Int) (r159 : Int × Int) (v2 : Int) : Option (Int × Int) := (if (divF BinOp.rem IntKind.i64 r159.fst 2 == 1) = true then (Option.bind (local_Hilbert_1.c k r150.snd) fun (r387 : Bool) => (Option.bind (local_sign.c k r387) fun (r389 : Int) => some ((IntKind.wrap IntKind.i64 (v2 * r389), 0)))) else some ((v2, 0)))
theorem local_Hilbert.j4_c (k : Nat) (r150 : Int × Int) (r159 : Int × Int) (v2 : Int) : local_Hilbert.j4 k r150 r159 v2 = local_Hilbert.cj4 k r150 r159 v2 := by
  rw [local_Hilbert.j4_eq, local_Hilbert.cj4]
  simp only [local_Hilbert_1.m_c, local_sign.m_c]
def local_Hilbert.cj3 (k : Nat) (r150 : Int × Int) (r159 : Int × Int) (v4 : Int) : Option (Int × Int) := (if (divF BinOp.rem IntKind.i64 r150.fst 2 == 1) = true then (Option.bind (local_Hilbert_1.c k r159.snd) fun (r408 : Bool) => (Option.bind (local_sign.c k r408) fun (r410 : Int) => (local_Hilbert.cj4 k r150 r159 (IntKind.wrap IntKind.i64 (v4 * r410))))) else (local_Hilbert.cj4 k r150 r159 (v4)))
theorem local_Hilbert.j3_c (k : Nat) (r150 : Int × Int) (r159 : Int × Int) (v4 : Int) : local_Hilbert.j3 k r150 r159 v4 = local_Hilbert.cj3 k r150 r159 v4 := by
  rw [local_Hilbert.j3_eq, local_Hilbert.cj3]
  simp only [local_Hilbert.j4_c k, local_Hilbert_1.m_c, local_sign.m_c]
def local_Hilbert.cj0 (k : Nat) (a0 : Int) (a1 : Int) (a2 : Int) : Option (Int × Int) := (if (a2 == 0) = true then (if decide (a0 < 0) = true then (Option.bind (local_sign.c k (decide (a1 < 0))) fun (r133 : Int) => some ((r133, 0))) else (Option.bind (local_sign.c k false) fun (r143 : Int) => some ((r143, 0)))) else (Option.bind (local_valuation.c k a0 a2) fun (r150 : Int × Int) => (Option.bind (local_valuation.c k a1 a2) fun (r159 : Int × Int) => (if (decide (a2 > 2)) = true then (if (divF BinOp.rem IntKind.i64 a2 4 == 3) = true then (if (divF BinOp.rem IntKind.i64 r150.fst 2 == 1) = true then (Option.bind (local_sign.c k (divF BinOp.rem IntKind.i64 r159.fst 2 == 1)) fun (r307 : Int) => (local_Hilbert.cj1 k a2 r150 r159 (r307))) else (Option.bind (local_sign.c k false) fun (r317 : Int) => (local_Hilbert.cj1 k a2 r150 r159 (r317)))) else (Option.bind (local_sign.c k false) fun (r336 : Int) => (local_Hilbert.cj1 k a2 r150 r159 (r336)))) else (Option.bind (local_mod.c k r150.snd 4) fun (r415 : Int) => (if (r415 == 3) = true then (Option.bind (local_mod.c k r159.snd 4) fun (r422 : Int) => (Option.bind (local_sign.c k (r422 == 3)) fun (r428 : Int) => (local_Hilbert.cj3 k r150 r159 (r428)))) else (Option.bind (local_sign.c k false) fun (r438 : Int) => (local_Hilbert.cj3 k r150 r159 (r438)))))))))
theorem local_Hilbert.j0_c (k : Nat) (a0 : Int) (a1 : Int) (a2 : Int) : local_Hilbert.j0 k a0 a1 a2 = local_Hilbert.cj0 k a0 a1 a2 := by
  rw [local_Hilbert.j0_eq, local_Hilbert.cj0]
  simp only [local_Hilbert.j1_c k, local_Hilbert.j3_c k, local_mod.m_c, local_sign.m_c, local_valuation.m_c]
def local_Hilbert.c (k : Nat) (a0 : Int) (a1 : Int) (a2 : Int) : Option (Int × Int) := (Option.bind (local_small.c k a0) fun (r442 : Bool) => (if (!r442) = true then some ((0, 1)) else (Option.bind (local_small.c k a1) fun (r477 : Bool) => (if (!r477) = true then some ((0, 1)) else (if (a2 != 0) = true then (if decide (a2 > 1000) = true then some ((0, 1)) else (Option.bind (local_prime.c k a2) fun (r534 : Bool) => (if (!r534) = true then some ((0, 1)) else (local_Hilbert.cj0 k a0 a1 a2 )))) else (local_Hilbert.cj0 k a0 a1 a2 ))))))
theorem local_Hilbert.m_c : local_Hilbert.m = local_Hilbert.c := by
  funext k a0 a1 a2
  rw [local_Hilbert.m_eq, local_Hilbert.c]
  simp only [local_Hilbert.j0_c k, local_prime.m_c, local_small.m_c]
def local_Square.c (k : Nat) (a0 : Int) : Option (Bool) := (Option.bind (rootC a0) fun (r3 : Int × Bool) => some (r3.snd))
theorem local_Square.m_c : local_Square.m = local_Square.c := by
  funext k a0
  rw [local_Square.m_eq, local_Square.c]
  simp only [← cRoot.hid]
def local_Solve.cj1 (k : Nat) (f0 : (Int) → (Int) → (Bool) → (Int) → (Int) → Option ((Bool × (Int × Int × Int) × Int) × Int)) (f1 : (Int) → (Int) → (Bool) → (Int) → (Int) → (Int) → Option ((Bool × (Int × Int × Int) × Int) × Int)) (a0 : Int) (a1 : Int) (v7 : Bool) (v11 : Int) (v0 : Int) (v2 : Int) (r1193 : Int × Bool) (v5 : Bool) : Option ((Bool × (Int × Int × Int) × Int) × Int) := (if (v5) = true then some (((v7, (v0, v2, r1193.fst), v11), 0)) else (f1 a0 a1 v7 v11 v0 (IntKind.wrap IntKind.i64 (v2 + 1))))
theorem local_Solve.j1_c (k n0 n1 : Nat) (f0 : (Int) → (Int) → (Bool) → (Int) → (Int) → Option ((Bool × (Int × Int × Int) × Int) × Int)) (f1 : (Int) → (Int) → (Bool) → (Int) → (Int) → (Int) → Option ((Bool × (Int × Int × Int) × Int) × Int)) (h0 : ∀ (a0 : Int) (a1 : Int) (v7 : Bool) (v11 : Int) (v0 : Int), local_Solve.l0 n0 k a0 a1 v7 v11 v0 = f0 a0 a1 v7 v11 v0) (h1 : ∀ (a0 : Int) (a1 : Int) (v7 : Bool) (v11 : Int) (v0 : Int) (v2 : Int), local_Solve.l1 n1 k n0 a0 a1 v7 v11 v0 v2 = f1 a0 a1 v7 v11 v0 v2) (a0 : Int) (a1 : Int) (v7 : Bool) (v11 : Int) (v0 : Int) (v2 : Int) (r1193 : Int × Bool) (v5 : Bool) : local_Solve.j1 k n0 n1 a0 a1 v7 v11 v0 v2 r1193 v5 = local_Solve.cj1 k f0 f1 a0 a1 v7 v11 v0 v2 r1193 v5 := by
  rw [local_Solve.j1_eq, local_Solve.cj1]
  simp only [h0, h1]
def local_Solve.cl1 (k : Nat) (f0 : (Int) → (Int) → (Bool) → (Int) → (Int) → Option ((Bool × (Int × Int × Int) × Int) × Int)) : Nat → (Int) → (Int) → (Bool) → (Int) → (Int) → (Int) → Option ((Bool × (Int × Int × Int) × Int) × Int)
  | 0, _, _, _, _, _, _ => none
  | n1 + 1, a0, a1, v7, v11, v0, v2 => (if (decide (v2 < 15)) = true then (Option.bind (rootC (IntKind.wrap IntKind.i64 (IntKind.wrap IntKind.i64 (IntKind.wrap IntKind.i64 (a0 * v0) * v0) + IntKind.wrap IntKind.i64 (IntKind.wrap IntKind.i64 (a1 * v2) * v2)))) fun (r1193 : Int × Bool) => (if r1193.snd = true then (local_Solve.cj1 k f0 (local_Solve.cl1 k f0 n1) a0 a1 v7 v11 v0 v2 r1193 (decide (IntKind.wrap IntKind.i64 (v0 + v2) > 0))) else (local_Solve.cj1 k f0 (local_Solve.cl1 k f0 n1) a0 a1 v7 v11 v0 v2 r1193 (false)))) else (f0 a0 a1 v7 v11 (IntKind.wrap IntKind.i64 (v0 + 1))))
theorem local_Solve.l1_c (k n0 : Nat) (f0 : (Int) → (Int) → (Bool) → (Int) → (Int) → Option ((Bool × (Int × Int × Int) × Int) × Int)) (h0 : ∀ (a0 : Int) (a1 : Int) (v7 : Bool) (v11 : Int) (v0 : Int), local_Solve.l0 n0 k a0 a1 v7 v11 v0 = f0 a0 a1 v7 v11 v0) : ∀ (n1 : Nat) (a0 : Int) (a1 : Int) (v7 : Bool) (v11 : Int) (v0 : Int) (v2 : Int), local_Solve.l1 n1 k n0 a0 a1 v7 v11 v0 v2 = local_Solve.cl1 k f0 n1 a0 a1 v7 v11 v0 v2
  | 0, _, _, _, _, _, _ => rfl
  | n1 + 1, a0, a1, v7, v11, v0, v2 => by
    rw [local_Solve.l1_succ, local_Solve.cl1]
    simp only [local_Solve.l1_c k n0 f0 h0 n1, local_Solve.j1_c k n0 n1 f0 (local_Solve.cl1 k f0 n1) h0 (local_Solve.l1_c k n0 f0 h0 n1), h0, ← cRoot.hid]
def local_Solve.cl0 (k : Nat) : Nat → (Int) → (Int) → (Bool) → (Int) → (Int) → Option ((Bool × (Int × Int × Int) × Int) × Int)
  | 0, _, _, _, _, _ => none
  | n0 + 1, a0, a1, v7, v11, v0 => (if (decide (v0 < 15)) = true then (local_Solve.cl1 k (local_Solve.cl0 k n0) k a0 a1 v7 v11 v0 (0)) else some (((v7, (0, 0, 0), v11), 0)))
theorem local_Solve.l0_c (k : Nat) : ∀ (n0 : Nat) (a0 : Int) (a1 : Int) (v7 : Bool) (v11 : Int) (v0 : Int), local_Solve.l0 n0 k a0 a1 v7 v11 v0 = local_Solve.cl0 k n0 a0 a1 v7 v11 v0
  | 0, _, _, _, _, _ => rfl
  | n0 + 1, a0, a1, v7, v11, v0 => by
    rw [local_Solve.l0_succ, local_Solve.cl0]
    simp only [local_Solve.l0_c k n0, local_Solve.l1_c k n0 (local_Solve.cl0 k n0) (local_Solve.l0_c k n0) k]
def local_Solve.cj0 (k : Nat) (a0 : Int) (a1 : Int) (v7 : Bool) (v11 : Int) : Option ((Bool × (Int × Int × Int) × Int) × Int) := (if (!v7) = true then some (((v7, (0, 0, 0), v11), 0)) else (local_Solve.cl0 k k a0 a1 v7 v11 (0)))
theorem local_Solve.j0_c (k : Nat) (a0 : Int) (a1 : Int) (v7 : Bool) (v11 : Int) : local_Solve.j0 k a0 a1 v7 v11 = local_Solve.cj0 k a0 a1 v7 v11 := by
  rw [local_Solve.j0_eq, local_Solve.cj0]
  simp only [local_Solve.l0_c k k]
def local_Solve.cl2 (k : Nat) : Nat → (Int) → (Int) → (Int) → Option ((Bool × (Int × Int × Int) × Int) × Int)
  | 0, _, _, _ => none
  | n2 + 1, a0, a1, v2 => (if (decide (v2 ≤ 200)) = true then (if (v2 == 0) = true then (Option.bind (local_Hilbert.c k a0 a1 v2) fun (r1606 : Int × Int) => (if (r1606.fst == -1) = true then (local_Solve.cj0 k a0 a1 (false) (v2)) else (local_Solve.cl2 k n2 a0 a1 (IntKind.wrap IntKind.i64 (v2 + 1))))) else (if (v2 == 2) = true then (Option.bind (local_Hilbert.c k a0 a1 v2) fun (r1669 : Int × Int) => (if (r1669.fst == -1) = true then (local_Solve.cj0 k a0 a1 (false) (v2)) else (local_Solve.cl2 k n2 a0 a1 (IntKind.wrap IntKind.i64 (v2 + 1))))) else (Option.bind (local_prime.c k v2) fun (r1703 : Bool) => (if r1703 = true then (if v2 = 0 then none else (if (divF BinOp.rem IntKind.i64 (IntKind.wrap IntKind.i64 (a0 * a1)) v2 == 0) = true then (Option.bind (local_Hilbert.c k a0 a1 v2) fun (r1735 : Int × Int) => (if (r1735.fst == -1) = true then (local_Solve.cj0 k a0 a1 (false) (v2)) else (local_Solve.cl2 k n2 a0 a1 (IntKind.wrap IntKind.i64 (v2 + 1))))) else (local_Solve.cl2 k n2 a0 a1 (IntKind.wrap IntKind.i64 (v2 + 1))))) else (local_Solve.cl2 k n2 a0 a1 (IntKind.wrap IntKind.i64 (v2 + 1))))))) else (local_Solve.cj0 k a0 a1 (true) (0)))
theorem local_Solve.l2_c (k : Nat) : ∀ (n2 : Nat) (a0 : Int) (a1 : Int) (v2 : Int), local_Solve.l2 n2 k a0 a1 v2 = local_Solve.cl2 k n2 a0 a1 v2
  | 0, _, _, _ => rfl
  | n2 + 1, a0, a1, v2 => by
    rw [local_Solve.l2_succ, local_Solve.cl2]
    simp only [local_Solve.l2_c k n2, local_Solve.j0_c k, local_Hilbert.m_c, local_prime.m_c]
def local_Solve.c (k : Nat) (a0 : Int) (a1 : Int) : Option ((Bool × (Int × Int × Int) × Int) × Int) := (Option.bind (local_small.c k a0) fun (r6 : Bool) => (if (!r6) = true then some (((false, (0, 0, 0), 0), 1)) else (Option.bind (local_small.c k a1) fun (r24 : Bool) => (if (!r24) = true then some (((false, (0, 0, 0), 0), 1)) else (local_Solve.cl2 k k a0 a1 (0))))))
theorem local_Solve.m_c : local_Solve.m = local_Solve.c := by
  funext k a0 a1
  rw [local_Solve.m_eq, local_Solve.c]
  simp only [local_Solve.l2_c k k, local_small.m_c]
end Go.Proofs.Ytokaigninenjhaa.V22
