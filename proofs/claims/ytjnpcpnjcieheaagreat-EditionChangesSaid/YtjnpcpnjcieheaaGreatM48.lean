/- Functions as the kernel can run them, out of their equations; printed by a tool. -/
import Derived.Test.YtjnpcpnjcieheaaGreatX48N
import Derived.KernelRfl
namespace Go.Proofs.YtjnpcpnjcieheaaGreat.V48
open Go Go.Vx Go.Proofs Go.Proofs.YtjnpcpnjcieheaaGreat.P47
set_option linter.unusedVariables false
set_option linter.unusedSimpArgs false
set_option maxRecDepth 100000
set_option maxHeartbeats 4000000
noncomputable def cForm.c := @cForm.m
theorem cForm.m_c : @cForm.m = cForm.c := rfl
noncomputable def cClone.c := @cClone.m
theorem cClone.m_c : @cClone.m = cClone.c := rfl
def seal_digest_step.c (k : Nat) (a0 : Int) (a1 : Int) : Option (Int) := some (IntKind.wrap IntKind.u64 (IntKind.wrap IntKind.u64 (↑(BitVec.toNat (BitVec.ofInt (IntKind.bits IntKind.u64) (IntKind.wrap IntKind.u64 (IntKind.wrap IntKind.u64 (↑(BitVec.toNat (BitVec.ofInt (IntKind.bits IntKind.u64) a0 ^^^ BitVec.ofInt (IntKind.bits IntKind.u64) a1)) : Int) * 11400714819323198485)) ^^^ BitVec.ofInt (IntKind.bits IntKind.u64) (shF BinOp.shr IntKind.u64 (IntKind.wrap IntKind.u64 (IntKind.wrap IntKind.u64 (↑(BitVec.toNat (BitVec.ofInt (IntKind.bits IntKind.u64) a0 ^^^ BitVec.ofInt (IntKind.bits IntKind.u64) a1)) : Int) * 11400714819323198485)) 29))) : Int) * 13787848793156543929))
theorem seal_digest_step.m_c : seal_digest_step.m = seal_digest_step.c := by
  funext k a0 a1
  rw [seal_digest_step.m_eq, seal_digest_step.c]
noncomputable def seal_Join.c (k : Nat) (a0 : Int) (a1 : Int) : Option (Int) := (Option.bind (seal_digest_step.c k 1785686382 a0) fun (r3 : Int) => (Option.bind (seal_digest_step.c k r3 a1) fun (r6 : Int) => some (r6)))
theorem seal_Join.m_c : seal_Join.m = seal_Join.c := by
  funext k a0 a1
  rw [seal_Join.m_eq, seal_Join.c]
  simp only [seal_digest_step.m_c]
noncomputable def edition_Digest.cl0 (k : Nat) : Nat → (Int × Int × Int × Int) → (Int) → (List Int) → Option (Int)
  | 0, _, _, _ => none
  | n0 + 1, a0, v1, v3 => (if (decide (v1 < (↑(List.length [a0.snd.fst, a0.snd.snd.fst, a0.snd.snd.snd]) : Int))) = true then (if 0 ≤ v1 then (if v1 < (↑(List.length [a0.snd.fst, a0.snd.snd.fst, a0.snd.snd.snd]) : Int) then (if (List.length v3 + List.length [IntKind.wrap IntKind.i64 (List.getD [a0.snd.fst, a0.snd.snd.fst, a0.snd.snd.snd] (Int.toNat v1) (Int.ofNat 0))]) * 8 ≤ 140737488355328 then (edition_Digest.cl0 k n0 a0 (IntKind.wrap IntKind.i64 (v1 + 1)) (v3 ++ [IntKind.wrap IntKind.i64 (List.getD [a0.snd.fst, a0.snd.snd.fst, a0.snd.snd.snd] (Int.toNat v1) (Int.ofNat 0))])) else none) else none) else none) else (Option.bind (seal_Words.f v3) fun (r85 : Int) => some (r85)))
theorem edition_Digest.l0_c (k : Nat) : ∀ (n0 : Nat) (a0 : Int × Int × Int × Int) (v1 : Int) (v3 : List Int), edition_Digest.l0 n0 k a0 v1 v3 = edition_Digest.cl0 k n0 a0 v1 v3
  | 0, _, _, _ => rfl
  | n0 + 1, a0, v1, v3 => by
    rw [edition_Digest.l0_succ, edition_Digest.cl0]
    simp only [edition_Digest.l0_c k n0, ← cWords.hid]
noncomputable def edition_Digest.c (k : Nat) (a0 : Int × Int × Int × Int) : Option (Int) := (edition_Digest.cl0 k k a0 (0) ([a0.fst]))
theorem edition_Digest.m_c : edition_Digest.m = edition_Digest.c := by
  funext k a0
  rw [edition_Digest.m_eq, edition_Digest.c]
  simp only [edition_Digest.l0_c k k]
noncomputable def seal_Step.c (k : Nat) (a0 : Int) (a1 : Int) : Option (Int) := (Option.bind (seal_digest_step.c k a0 a1) fun (r4 : Int) => some (r4))
theorem seal_Step.m_c : seal_Step.m = seal_Step.c := by
  funext k a0 a1
  rw [seal_Step.m_eq, seal_Step.c]
  simp only [seal_digest_step.m_c]
noncomputable def seal_Tag.c (k : Nat) (a0 : Int) (a1 : List Int) : Option (Int) := (Option.bind (seal_Words.f a1) fun (r4 : Int) => (Option.bind (seal_Step.c k a0 r4) fun (r6 : Int) => some (r6)))
theorem seal_Tag.m_c : seal_Tag.m = seal_Tag.c := by
  funext k a0 a1
  rw [seal_Tag.m_eq, seal_Tag.c]
  simp only [seal_Step.m_c, ← cWords.hid]
noncomputable def edition_signed.cl0 (k : Nat) : Nat → (Int) → (List (Int × Int × Int × Int)) → (Int) → (Int) → (Int) → (List Int) → Option (Int × Int × Int × Int)
  | 0, _, _, _, _, _, _ => none
  | n0 + 1, a0, a1, a2, v6, v1, v12 => (if (decide (v1 < (↑(List.length [v6, a2]) : Int))) = true then (if 0 ≤ v1 then (if v1 < (↑(List.length [v6, a2]) : Int) then (if (List.length v12 + List.length [IntKind.wrap IntKind.i64 (List.getD [v6, a2] (Int.toNat v1) (Int.ofNat 0))]) * 8 ≤ 140737488355328 then (edition_signed.cl0 k n0 a0 a1 a2 v6 (IntKind.wrap IntKind.i64 (v1 + 1)) (v12 ++ [IntKind.wrap IntKind.i64 (List.getD [v6, a2] (Int.toNat v1) (Int.ofNat 0))])) else none) else none) else none) else (Option.bind (seal_Tag.c k a0 v12) fun (r110 : Int) => some ((IntKind.wrap IntKind.i64 ((↑(List.length a1) : Int) + 1), v6, a2, r110))))
theorem edition_signed.l0_c (k : Nat) : ∀ (n0 : Nat) (a0 : Int) (a1 : List (Int × Int × Int × Int)) (a2 : Int) (v6 : Int) (v1 : Int) (v12 : List Int), edition_signed.l0 n0 k a0 a1 a2 v6 v1 v12 = edition_signed.cl0 k n0 a0 a1 a2 v6 v1 v12
  | 0, _, _, _, _, _, _ => rfl
  | n0 + 1, a0, a1, a2, v6, v1, v12 => by
    rw [edition_signed.l0_succ, edition_signed.cl0]
    simp only [edition_signed.l0_c k n0, seal_Tag.m_c]
noncomputable def edition_signed.cj0 (k : Nat) (a0 : Int) (a1 : List (Int × Int × Int × Int)) (a2 : Int) (v6 : Int) : Option (Int × Int × Int × Int) := (edition_signed.cl0 k k a0 a1 a2 v6 (0) ([IntKind.wrap IntKind.i64 ((↑(List.length a1) : Int) + 1)]))
theorem edition_signed.j0_c (k : Nat) (a0 : Int) (a1 : List (Int × Int × Int × Int)) (a2 : Int) (v6 : Int) : edition_signed.j0 k a0 a1 a2 v6 = edition_signed.cj0 k a0 a1 a2 v6 := by
  rw [edition_signed.j0_eq, edition_signed.cj0]
  simp only [edition_signed.l0_c k k]
noncomputable def edition_signed.c (k : Nat) (a0 : Int) (a1 : List (Int × Int × Int × Int)) (a2 : Int) : Option (Int × Int × Int × Int) := (if (decide ((↑(List.length a1) : Int) > 0)) = true then (if 0 ≤ IntKind.wrap IntKind.i64 ((↑(List.length a1) : Int) - 1) then (if IntKind.wrap IntKind.i64 ((↑(List.length a1) : Int) - 1) < (↑(List.length a1) : Int) then (Option.bind (edition_Digest.c k ((List.getD a1 (Int.toNat (IntKind.wrap IntKind.i64 ((↑(List.length a1) : Int) - 1))) (Int.ofNat 0, Int.ofNat 0, Int.ofNat 0, Int.ofNat 0)).fst, (List.getD a1 (Int.toNat (IntKind.wrap IntKind.i64 ((↑(List.length a1) : Int) - 1))) (Int.ofNat 0, Int.ofNat 0, Int.ofNat 0, Int.ofNat 0)).snd.fst, (List.getD a1 (Int.toNat (IntKind.wrap IntKind.i64 ((↑(List.length a1) : Int) - 1))) (Int.ofNat 0, Int.ofNat 0, Int.ofNat 0, Int.ofNat 0)).snd.snd.fst, (List.getD a1 (Int.toNat (IntKind.wrap IntKind.i64 ((↑(List.length a1) : Int) - 1))) (Int.ofNat 0, Int.ofNat 0, Int.ofNat 0, Int.ofNat 0)).snd.snd.snd)) fun (r128 : Int) => (edition_signed.cj0 k a0 a1 a2 (r128))) else none) else none) else (edition_signed.cj0 k a0 a1 a2 (0)))
theorem edition_signed.m_c : edition_signed.m = edition_signed.c := by
  funext k a0 a1 a2
  rw [edition_signed.m_eq, edition_signed.c]
  simp only [edition_signed.j0_c k, edition_Digest.m_c]
noncomputable def edition_Check.cl0 (k : Nat) : Nat → (Int) → (List (Int × Int × Int × Int)) → (Int) → Option (Int)
  | 0, _, _, _ => none
  | n0 + 1, a0, a1, v4 => (if (decide (v4 < (↑(List.length a1) : Int))) = true then (if 0 ≤ v4 then (if v4 < (↑(List.length a1) : Int) then (if 0 ≤ v4 then (if v4 ≤ (↑(List.length a1) : Int) then (Option.bind (edition_signed.c k a0 (List.take (Int.toNat v4) a1) (List.getD a1 (Int.toNat v4) (Int.ofNat 0, Int.ofNat 0, Int.ofNat 0, Int.ofNat 0)).snd.snd.fst) fun (r82 : Int × Int × Int × Int) => (if (!((List.getD a1 (Int.toNat v4) (Int.ofNat 0, Int.ofNat 0, Int.ofNat 0, Int.ofNat 0)).fst == r82.fst && ((List.getD a1 (Int.toNat v4) (Int.ofNat 0, Int.ofNat 0, Int.ofNat 0, Int.ofNat 0)).snd.fst == r82.snd.fst && ((List.getD a1 (Int.toNat v4) (Int.ofNat 0, Int.ofNat 0, Int.ofNat 0, Int.ofNat 0)).snd.snd.fst == r82.snd.snd.fst && (List.getD a1 (Int.toNat v4) (Int.ofNat 0, Int.ofNat 0, Int.ofNat 0, Int.ofNat 0)).snd.snd.snd == r82.snd.snd.snd)))) = true then some (480) else (edition_Check.cl0 k n0 a0 a1 (IntKind.wrap IntKind.i64 (v4 + 1))))) else none) else none) else none) else none) else some (0))
theorem edition_Check.l0_c (k : Nat) : ∀ (n0 : Nat) (a0 : Int) (a1 : List (Int × Int × Int × Int)) (v4 : Int), edition_Check.l0 n0 k a0 a1 v4 = edition_Check.cl0 k n0 a0 a1 v4
  | 0, _, _, _ => rfl
  | n0 + 1, a0, a1, v4 => by
    rw [edition_Check.l0_succ, edition_Check.cl0]
    simp only [edition_Check.l0_c k n0, edition_signed.m_c]
noncomputable def edition_Check.c (k : Nat) (a0 : Int) (a1 : List (Int × Int × Int × Int)) : Option (Int) := (if (decide ((↑(List.length a1) : Int) > 60)) = true then some (480) else (edition_Check.cl0 k k a0 a1 (0)))
theorem edition_Check.m_c : edition_Check.m = edition_Check.c := by
  funext k a0 a1
  rw [edition_Check.m_eq, edition_Check.c]
  simp only [edition_Check.l0_c k k]
noncomputable def edition_Leaf.cl0 (k : Nat) : Nat → (Int × Int × List Int) → (Int) → (List Int) → Option (Int)
  | 0, _, _, _ => none
  | n0 + 1, a0, v2, v3 => (if (decide (v2 < (↑(List.length a0.snd.snd) : Int))) = true then (if 0 ≤ v2 then (if v2 < (↑(List.length a0.snd.snd) : Int) then (if (List.length v3 + List.length [IntKind.wrap IntKind.i64 (List.getD a0.snd.snd (Int.toNat v2) (Int.ofNat 0))]) * 8 ≤ 140737488355328 then (edition_Leaf.cl0 k n0 a0 (IntKind.wrap IntKind.i64 (v2 + 1)) (v3 ++ [IntKind.wrap IntKind.i64 (List.getD a0.snd.snd (Int.toNat v2) (Int.ofNat 0))])) else none) else none) else none) else (Option.bind (seal_Words.f v3) fun (r84 : Int) => some (r84)))
theorem edition_Leaf.l0_c (k : Nat) : ∀ (n0 : Nat) (a0 : Int × Int × List Int) (v2 : Int) (v3 : List Int), edition_Leaf.l0 n0 k a0 v2 v3 = edition_Leaf.cl0 k n0 a0 v2 v3
  | 0, _, _, _ => rfl
  | n0 + 1, a0, v2, v3 => by
    rw [edition_Leaf.l0_succ, edition_Leaf.cl0]
    simp only [edition_Leaf.l0_c k n0, ← cWords.hid]
noncomputable def edition_Leaf.c (k : Nat) (a0 : Int × Int × List Int) : Option (Int) := (edition_Leaf.cl0 k k a0 (0) ([a0.fst, a0.snd.fst]))
theorem edition_Leaf.m_c : edition_Leaf.m = edition_Leaf.c := by
  funext k a0
  rw [edition_Leaf.m_eq, edition_Leaf.c]
  simp only [edition_Leaf.l0_c k k]
noncomputable def edition_leaves.cl0 (k : Nat) : Nat → (Int × Int × List (Int × Int × List Int)) → (Int) → (List Int) → Option (List Int)
  | 0, _, _, _ => none
  | n0 + 1, a0, v2, v3 => (if (decide (v2 < (↑(List.length a0.snd.snd) : Int))) = true then (if 0 ≤ v2 then (if v2 < (↑(List.length a0.snd.snd) : Int) then (Option.bind (edition_Leaf.c k ((List.getD a0.snd.snd (Int.toNat v2) (Int.ofNat 0, Int.ofNat 0, [])).fst, (List.getD a0.snd.snd (Int.toNat v2) (Int.ofNat 0, Int.ofNat 0, [])).snd.fst, (List.getD a0.snd.snd (Int.toNat v2) (Int.ofNat 0, Int.ofNat 0, [])).snd.snd)) fun (r56 : Int) => (if (List.length v3 + List.length [r56]) * 8 ≤ 140737488355328 then (edition_leaves.cl0 k n0 a0 (IntKind.wrap IntKind.i64 (v2 + 1)) (v3 ++ [r56])) else none)) else none) else none) else some (v3))
theorem edition_leaves.l0_c (k : Nat) : ∀ (n0 : Nat) (a0 : Int × Int × List (Int × Int × List Int)) (v2 : Int) (v3 : List Int), edition_leaves.l0 n0 k a0 v2 v3 = edition_leaves.cl0 k n0 a0 v2 v3
  | 0, _, _, _ => rfl
  | n0 + 1, a0, v2, v3 => by
    rw [edition_leaves.l0_succ, edition_leaves.cl0]
    simp only [edition_leaves.l0_c k n0, edition_Leaf.m_c]
noncomputable def edition_leaves.c (k : Nat) (a0 : Int × Int × List (Int × Int × List Int)) : Option (List Int) := (edition_leaves.cl0 k k a0 (0) ([]))
theorem edition_leaves.m_c : edition_leaves.m = edition_leaves.c := by
  funext k a0
  rw [edition_leaves.m_eq, edition_leaves.c]
  simp only [edition_leaves.l0_c k k]
noncomputable def edition_root.c (k : Nat) (a0 : List Int) : Option (Int) := (Option.bind (seal_Root.f k a0) fun (r3 : Int) => (Option.bind (seal_Join.c k r3 (IntKind.wrap IntKind.u64 (↑(List.length a0) : Int))) fun (r8 : Int) => some (r8)))
theorem edition_root.m_c : edition_root.m = edition_root.c := by
  funext k a0
  rw [edition_root.m_eq, edition_root.c]
  simp only [seal_Join.m_c, ← cRoot.hid]
noncomputable def edition_Root.c (k : Nat) (a0 : Int × Int × List (Int × Int × List Int)) : Option (Int) := (Option.bind (edition_leaves.c k (a0.fst, a0.snd.fst, a0.snd.snd)) fun (r4 : List Int) => (Option.bind (edition_root.c k r4) fun (r6 : Int) => some (r6)))
theorem edition_Root.m_c : edition_Root.m = edition_Root.c := by
  funext k a0
  rw [edition_Root.m_eq, edition_Root.c]
  simp only [edition_leaves.m_c, edition_root.m_c]
noncomputable def names_known.c (k : Nat) (a0 : Int) : Option (Bool) := (if (a0 == 1) = true then some (true) else some (a0 == 2))
theorem names_known.m_c : names_known.m = names_known.c := by
  funext k a0
  rw [names_known.m_eq, names_known.c]
noncomputable def names_limits.c (k : Nat) (a0 : Int × Int × List (Int × Int × List Int)) : Option (Bool) := (if decide ((↑(List.length a0.snd.snd) : Int) ≤ 100) = true then some (decide (a0.snd.fst ≤ 1000000)) else some (false))
theorem names_limits.m_c : names_limits.m = names_limits.c := by
  funext k a0
  rw [names_limits.m_eq, names_limits.c]
noncomputable def slices_Equal_uint64_uint64.cl0 (k : Nat) : Nat → (List Int) → (List Int) → (Int) → Option (Bool)
  | 0, _, _, _ => none
  | n0 + 1, a0, a1, v3 => (if (decide (v3 < (↑(List.length a0) : Int))) = true then (if 0 ≤ v3 then (if v3 < (↑(List.length a0) : Int) then (if 0 ≤ v3 then (if v3 < (↑(List.length a1) : Int) then (if (List.getD a0 (Int.toNat v3) (Int.ofNat 0) != List.getD a1 (Int.toNat v3) (Int.ofNat 0)) = true then some (false) else (slices_Equal_uint64_uint64.cl0 k n0 a0 a1 (IntKind.wrap IntKind.i64 (v3 + 1)))) else none) else none) else none) else none) else some (true))
theorem slices_Equal_uint64_uint64.l0_c (k : Nat) : ∀ (n0 : Nat) (a0 : List Int) (a1 : List Int) (v3 : Int), slices_Equal_uint64_uint64.l0 n0 k a0 a1 v3 = slices_Equal_uint64_uint64.cl0 k n0 a0 a1 v3
  | 0, _, _, _ => rfl
  | n0 + 1, a0, a1, v3 => by
    rw [slices_Equal_uint64_uint64.l0_succ, slices_Equal_uint64_uint64.cl0]
    simp only [slices_Equal_uint64_uint64.l0_c k n0]
noncomputable def slices_Equal_uint64_uint64.c (k : Nat) (a0 : List Int) (a1 : List Int) : Option (Bool) := (if ((↑(List.length a0) : Int) != (↑(List.length a1) : Int)) = true then some (false) else (slices_Equal_uint64_uint64.cl0 k k a0 a1 (0)))
theorem slices_Equal_uint64_uint64.m_c : slices_Equal_uint64_uint64.m = slices_Equal_uint64_uint64.c := by
  funext k a0 a1
  rw [slices_Equal_uint64_uint64.m_eq, slices_Equal_uint64_uint64.c]
  simp only [slices_Equal_uint64_uint64.l0_c k k]
noncomputable def names_equal.c (k : Nat) (a0 : Int × List Int) (a1 : Int × List Int) : Option (Bool) := (if (a0.fst == a1.fst) = true then (Option.bind (slices_Equal_uint64_uint64.c k a0.snd a1.snd) fun (r19 : Bool) => some (r19)) else some (false))
theorem names_equal.m_c : names_equal.m = names_equal.c := by
  funext k a0 a1
  rw [names_equal.m_eq, names_equal.c]
  simp only [slices_Equal_uint64_uint64.m_c]
noncomputable def names_Right.cl1 (k : Nat) (f0 : (Int × Int × List (Int × Int × List Int)) → (Int) → (Int) → Option (Int)) : Nat → (Int × Int × List (Int × Int × List Int)) → (Int) → ((Int × List Int) × List Int × Int) → (Int) → Option (Int)
  | 0, _, _, _, _ => none
  | n1 + 1, a0, v3, r696, v2 => (if (decide (v2 < (↑(List.length (List.take (Int.toNat v3) a0.snd.snd)) : Int))) = true then (if 0 ≤ v2 then (if v2 < (↑(List.length (List.take (Int.toNat v3) a0.snd.snd)) : Int) then (Option.bind (names_equal.c k ((List.getD (List.take (Int.toNat v3) a0.snd.snd) (Int.toNat v2) (Int.ofNat 0, Int.ofNat 0, [])).snd.fst, (List.getD (List.take (Int.toNat v3) a0.snd.snd) (Int.toNat v2) (Int.ofNat 0, Int.ofNat 0, [])).snd.snd) (r696.fst.fst, r696.fst.snd)) fun (r959 : Bool) => (if (r959) = true then (if (decide (v2 ≥ 0)) = true then some (210) else (f0 a0 ((List.getD a0.snd.snd (Int.toNat v3) (Int.ofNat 0, Int.ofNat 0, [])).fst) (IntKind.wrap IntKind.i64 (v3 + 1)))) else (names_Right.cl1 k f0 n1 a0 v3 r696 (IntKind.wrap IntKind.i64 (v2 + 1))))) else none) else none) else (f0 a0 ((List.getD a0.snd.snd (Int.toNat v3) (Int.ofNat 0, Int.ofNat 0, [])).fst) (IntKind.wrap IntKind.i64 (v3 + 1))))
theorem names_Right.l1_c (k n0 : Nat) (f0 : (Int × Int × List (Int × Int × List Int)) → (Int) → (Int) → Option (Int)) (h0 : ∀ (a0 : Int × Int × List (Int × Int × List Int)) (v0 : Int) (v3 : Int), names_Right.l0 n0 k a0 v0 v3 = f0 a0 v0 v3) : ∀ (n1 : Nat) (a0 : Int × Int × List (Int × Int × List Int)) (v3 : Int) (r696 : (Int × List Int) × List Int × Int) (v2 : Int), names_Right.l1 n1 k n0 a0 v3 r696 v2 = names_Right.cl1 k f0 n1 a0 v3 r696 v2
  | 0, _, _, _, _ => rfl
  | n1 + 1, a0, v3, r696, v2 => by
    rw [names_Right.l1_succ, names_Right.cl1]
    simp only [names_Right.l1_c k n0 f0 h0 n1, h0, names_equal.m_c]
noncomputable def names_Right.cl0 (k : Nat) : Nat → (Int × Int × List (Int × Int × List Int)) → (Int) → (Int) → Option (Int)
  | 0, _, _, _ => none
  | n0 + 1, a0, v0, v3 => (if (decide (v3 < (↑(List.length a0.snd.snd) : Int))) = true then (if 0 ≤ v3 then (if v3 < (↑(List.length a0.snd.snd) : Int) then (Option.bind (cForm.c k a0.fst ((List.getD a0.snd.snd (Int.toNat v3) (Int.ofNat 0, Int.ofNat 0, [])).snd.fst, (List.getD a0.snd.snd (Int.toNat v3) (Int.ofNat 0, Int.ofNat 0, [])).snd.snd)) fun (r696 : (Int × List Int) × List Int × Int) => (if decide ((List.getD a0.snd.snd (Int.toNat v3) (Int.ofNat 0, Int.ofNat 0, [])).fst ≤ v0) = true then some (210) else (if decide ((List.getD a0.snd.snd (Int.toNat v3) (Int.ofNat 0, Int.ofNat 0, [])).fst ≥ a0.snd.fst) = true then some (210) else (if (r696.snd.snd != 0) = true then some (210) else (Option.bind (names_equal.c k (r696.fst.fst, r696.fst.snd) ((List.getD a0.snd.snd (Int.toNat v3) (Int.ofNat 0, Int.ofNat 0, [])).snd.fst, (List.getD a0.snd.snd (Int.toNat v3) (Int.ofNat 0, Int.ofNat 0, [])).snd.snd)) fun (r849 : Bool) => (if (!r849) = true then some (210) else (if 0 ≤ v3 then (if v3 ≤ (↑(List.length a0.snd.snd) : Int) then (names_Right.cl1 k (names_Right.cl0 k n0) k a0 v3 r696 (0)) else none) else none))))))) else none) else none) else some (0))
theorem names_Right.l0_c (k : Nat) : ∀ (n0 : Nat) (a0 : Int × Int × List (Int × Int × List Int)) (v0 : Int) (v3 : Int), names_Right.l0 n0 k a0 v0 v3 = names_Right.cl0 k n0 a0 v0 v3
  | 0, _, _, _ => rfl
  | n0 + 1, a0, v0, v3 => by
    rw [names_Right.l0_succ, names_Right.cl0]
    simp only [names_Right.l0_c k n0, names_Right.l1_c k n0 (names_Right.cl0 k n0) (names_Right.l0_c k n0) k, cForm.m_c, names_equal.m_c]
noncomputable def names_Right.c (k : Nat) (a0 : Int × Int × List (Int × Int × List Int)) : Option (Int) := (Option.bind (names_known.c k a0.fst) fun (r5 : Bool) => (if (!r5) = true then some (210) else (if decide (a0.snd.fst < 1) = true then some (210) else (Option.bind (names_limits.c k (a0.fst, a0.snd.fst, a0.snd.snd)) fun (r48 : Bool) => (if (!r48) = true then some (210) else (names_Right.cl0 k k a0 (0) (0)))))))
theorem names_Right.m_c : names_Right.m = names_Right.c := by
  funext k a0
  rw [names_Right.m_eq, names_Right.c]
  simp only [names_Right.l0_c k k, names_known.m_c, names_limits.m_c]
noncomputable def edition_Next.c (k : Nat) (a0 : Int) (a1 : List (Int × Int × Int × Int)) (a2 : Int × Int × List (Int × Int × List Int)) : Option (List (Int × Int × Int × Int) × Int) := (Option.bind (edition_Check.c k a0 a1) fun (r6 : Int) => (if (r6 != 0) = true then some (([], r6)) else (Option.bind (names_Right.c k (a2.fst, a2.snd.fst, a2.snd.snd)) fun (r16 : Int) => (if (r16 != 0) = true then some (([], r16)) else (if ((↑(List.length a1) : Int) == 60) = true then some (([], 2)) else (Option.bind (cClone.c k a1) fun (r32 : List (Int × Int × Int × Int)) => (Option.bind (edition_Root.c k (a2.fst, a2.snd.fst, a2.snd.snd)) fun (r37 : Int) => (Option.bind (edition_signed.c k a0 a1 r37) fun (r39 : Int × Int × Int × Int) => (if (List.length r32 + List.length [(r39.fst, r39.snd.fst, r39.snd.snd.fst, r39.snd.snd.snd)]) * 32 ≤ 140737488355328 then some ((List.append r32 [(r39.fst, r39.snd.fst, r39.snd.snd.fst, r39.snd.snd.snd)], 0)) else none)))))))))
theorem edition_Next.m_c : edition_Next.m = edition_Next.c := by
  funext k a0 a1 a2
  rw [edition_Next.m_eq, edition_Next.c]
  simp only [cClone.m_c, edition_Check.m_c, edition_Root.m_c, edition_signed.m_c, names_Right.m_c]
noncomputable def plexuslaw48_next.c (k : Nat) (a0 : Int) (a1 : List (Int × Int × Int × Int)) (a2 : Int × Int × List (Int × Int × List Int)) : Option (List (Int × Int × Int × Int) × Int) := (Option.bind (edition_Next.c k a0 a1 (a2.fst, a2.snd.fst, a2.snd.snd)) fun (r6 : List (Int × Int × Int × Int) × Int) => some ((r6.1, r6.snd)))
theorem plexuslaw48_next.m_c : plexuslaw48_next.m = plexuslaw48_next.c := by
  funext k a0 a1 a2
  rw [plexuslaw48_next.m_eq, plexuslaw48_next.c]
  simp only [edition_Next.m_c]
noncomputable def edition_Show.cj0 (k : Nat) (a0 : Int × Int × List (Int × Int × List Int)) (v0 : Int) : Option ((Int × Int × Int × List Int) × Int) := (if (decide (v0 < 0)) = true then some (((0, 0, 0, []), 4)) else (Option.bind (edition_leaves.c k (a0.fst, a0.snd.fst, a0.snd.snd)) fun (r106 : List Int) => (Option.bind (seal_Open.f k r106 v0) fun (r111 : List Int × Int) => (Option.bind (seal_Root.f k r106) fun (r122 : Int) => some ((((↑(List.length r106) : Int), v0, r122, r111.1), 0))))))
theorem edition_Show.j0_c (k : Nat) (a0 : Int × Int × List (Int × Int × List Int)) (v0 : Int) : edition_Show.j0 k a0 v0 = edition_Show.cj0 k a0 v0 := by
  rw [edition_Show.j0_eq, edition_Show.cj0]
  simp only [edition_leaves.m_c, ← cRoot.hid, ← cOpen.hid]
noncomputable def edition_Show.cl0 (k : Nat) : Nat → (Int × Int × List (Int × Int × List Int)) → (Int) → (Int) → Option ((Int × Int × Int × List Int) × Int)
  | 0, _, _, _ => none
  | n0 + 1, a0, a1, v2 => (if (decide (v2 < (↑(List.length a0.snd.snd) : Int))) = true then (if 0 ≤ v2 then (if v2 < (↑(List.length a0.snd.snd) : Int) then (if ((List.getD a0.snd.snd (Int.toNat v2) (Int.ofNat 0, Int.ofNat 0, [])).fst == a1) = true then (edition_Show.cj0 k a0 (v2)) else (edition_Show.cl0 k n0 a0 a1 (IntKind.wrap IntKind.i64 (v2 + 1)))) else none) else none) else (edition_Show.cj0 k a0 (-1)))
theorem edition_Show.l0_c (k : Nat) : ∀ (n0 : Nat) (a0 : Int × Int × List (Int × Int × List Int)) (a1 : Int) (v2 : Int), edition_Show.l0 n0 k a0 a1 v2 = edition_Show.cl0 k n0 a0 a1 v2
  | 0, _, _, _ => rfl
  | n0 + 1, a0, a1, v2 => by
    rw [edition_Show.l0_succ, edition_Show.cl0]
    simp only [edition_Show.l0_c k n0, edition_Show.j0_c k]
noncomputable def edition_Show.c (k : Nat) (a0 : Int × Int × List (Int × Int × List Int)) (a1 : Int) : Option ((Int × Int × Int × List Int) × Int) := (Option.bind (names_Right.c k (a0.fst, a0.snd.fst, a0.snd.snd)) fun (r6 : Int) => (if (r6 != 0) = true then some (((0, 0, 0, []), r6)) else (edition_Show.cl0 k k a0 a1 (0))))
theorem edition_Show.m_c : edition_Show.m = edition_Show.c := by
  funext k a0 a1
  rw [edition_Show.m_eq, edition_Show.c]
  simp only [edition_Show.l0_c k k, names_Right.m_c]
noncomputable def plexuslaw48_show.c (k : Nat) (a0 : Int × Int × List (Int × Int × List Int)) (a1 : Int) : Option ((Int × Int × Int × List Int) × Int) := (Option.bind (edition_Show.c k (a0.fst, a0.snd.fst, a0.snd.snd) a1) fun (r5 : (Int × Int × Int × List Int) × Int) => some (((r5.fst.fst, r5.fst.snd.fst, r5.fst.snd.snd.fst, r5.fst.snd.snd.snd), r5.snd)))
theorem plexuslaw48_show.m_c : plexuslaw48_show.m = plexuslaw48_show.c := by
  funext k a0 a1
  rw [plexuslaw48_show.m_eq, plexuslaw48_show.c]
  simp only [edition_Show.m_c]
noncomputable def edition_Fork.cl0 (k : Nat) : Nat → (List (Int × Int × Int × Int)) → (List (Int × Int × Int × Int)) → (Int) → Option (Int × Bool)
  | 0, _, _, _ => none
  | n0 + 1, a0, a1, v4 => (if (decide (v4 < mnF (↑(List.length a0) : Int) (↑(List.length a1) : Int))) = true then (if 0 ≤ v4 then (if v4 < (↑(List.length a0) : Int) then (if 0 ≤ v4 then (if v4 < (↑(List.length a1) : Int) then (if (!((List.getD a0 (Int.toNat v4) (Int.ofNat 0, Int.ofNat 0, Int.ofNat 0, Int.ofNat 0)).fst == (List.getD a1 (Int.toNat v4) (Int.ofNat 0, Int.ofNat 0, Int.ofNat 0, Int.ofNat 0)).fst && ((List.getD a0 (Int.toNat v4) (Int.ofNat 0, Int.ofNat 0, Int.ofNat 0, Int.ofNat 0)).snd.fst == (List.getD a1 (Int.toNat v4) (Int.ofNat 0, Int.ofNat 0, Int.ofNat 0, Int.ofNat 0)).snd.fst && ((List.getD a0 (Int.toNat v4) (Int.ofNat 0, Int.ofNat 0, Int.ofNat 0, Int.ofNat 0)).snd.snd.fst == (List.getD a1 (Int.toNat v4) (Int.ofNat 0, Int.ofNat 0, Int.ofNat 0, Int.ofNat 0)).snd.snd.fst && (List.getD a0 (Int.toNat v4) (Int.ofNat 0, Int.ofNat 0, Int.ofNat 0, Int.ofNat 0)).snd.snd.snd == (List.getD a1 (Int.toNat v4) (Int.ofNat 0, Int.ofNat 0, Int.ofNat 0, Int.ofNat 0)).snd.snd.snd)))) = true then some ((v4, true)) else (edition_Fork.cl0 k n0 a0 a1 (IntKind.wrap IntKind.i64 (v4 + 1)))) else none) else none) else none) else none) else some ((mnF (↑(List.length a0) : Int) (↑(List.length a1) : Int), false)))
theorem edition_Fork.l0_c (k : Nat) : ∀ (n0 : Nat) (a0 : List (Int × Int × Int × Int)) (a1 : List (Int × Int × Int × Int)) (v4 : Int), edition_Fork.l0 n0 k a0 a1 v4 = edition_Fork.cl0 k n0 a0 a1 v4
  | 0, _, _, _ => rfl
  | n0 + 1, a0, a1, v4 => by
    rw [edition_Fork.l0_succ, edition_Fork.cl0]
    simp only [edition_Fork.l0_c k n0]
noncomputable def edition_Fork.c (k : Nat) (a0 : List (Int × Int × Int × Int)) (a1 : List (Int × Int × Int × Int)) : Option (Int × Bool) := (edition_Fork.cl0 k k a0 a1 (0))
theorem edition_Fork.m_c : edition_Fork.m = edition_Fork.c := by
  funext k a0 a1
  rw [edition_Fork.m_eq, edition_Fork.c]
  simp only [edition_Fork.l0_c k k]
noncomputable def plexuslaw48_fork.c (k : Nat) (a0 : List (Int × Int × Int × Int)) (a1 : List (Int × Int × Int × Int)) : Option (Int × Bool) := (Option.bind (edition_Fork.c k a0 a1) fun (r4 : Int × Bool) => some ((r4.fst, r4.snd)))
theorem plexuslaw48_fork.m_c : plexuslaw48_fork.m = plexuslaw48_fork.c := by
  funext k a0 a1
  rw [plexuslaw48_fork.m_eq, plexuslaw48_fork.c]
  simp only [edition_Fork.m_c]
noncomputable def plexuslaw48_examples.c (k : Nat) : Option (Bool) := (Option.bind (seal_Words.f []) fun (r5 : Int) => (Option.bind (seal_Join.c k r5 0) fun (r7 : Int) => (Option.bind (plexuslaw48_next.c k 7 [] (1, 1, [])) fun (r11 : List (Int × Int × Int × Int) × Int) => (if (r11.snd != 0) = true then some (false) else (if ((↑(List.length r11.fst) : Int) != 1) = true then some (false) else (Option.bind (edition_Root.c k (1, 1, [])) fun (r44 : Int) => (if (r44 != r7) = true then some (false) else (if 0 < (↑(List.length r11.fst) : Int) then (Option.bind (seal_Tag.c k 7 [1, 0, IntKind.wrap IntKind.i64 r7]) fun (r65 : Int) => (if (!((List.getD r11.fst (Int.toNat 0) (Int.ofNat 0, Int.ofNat 0, Int.ofNat 0, Int.ofNat 0)).fst == 1 && ((List.getD r11.fst (Int.toNat 0) (Int.ofNat 0, Int.ofNat 0, Int.ofNat 0, Int.ofNat 0)).snd.fst == 0 && ((List.getD r11.fst (Int.toNat 0) (Int.ofNat 0, Int.ofNat 0, Int.ofNat 0, Int.ofNat 0)).snd.snd.fst == r7 && (List.getD r11.fst (Int.toNat 0) (Int.ofNat 0, Int.ofNat 0, Int.ofNat 0, Int.ofNat 0)).snd.snd.snd == r65)))) = true then some (false) else (Option.bind (plexuslaw48_next.c k 7 r11.fst (1, 1, [])) fun (r76 : List (Int × Int × Int × Int) × Int) => (if (r76.snd == 0) = true then (if ((↑(List.length r76.fst) : Int) == 2) = true then (if 1 < (↑(List.length r76.fst) : Int) then (if ((List.getD r76.fst (Int.toNat 1) (Int.ofNat 0, Int.ofNat 0, Int.ofNat 0, Int.ofNat 0)).fst == 2) = true then (if 1 < (↑(List.length r76.fst) : Int) then (if 0 < (↑(List.length r11.fst) : Int) then (Option.bind (edition_Digest.c k ((List.getD r11.fst (Int.toNat 0) (Int.ofNat 0, Int.ofNat 0, Int.ofNat 0, Int.ofNat 0)).fst, (List.getD r11.fst (Int.toNat 0) (Int.ofNat 0, Int.ofNat 0, Int.ofNat 0, Int.ofNat 0)).snd.fst, (List.getD r11.fst (Int.toNat 0) (Int.ofNat 0, Int.ofNat 0, Int.ofNat 0, Int.ofNat 0)).snd.snd.fst, (List.getD r11.fst (Int.toNat 0) (Int.ofNat 0, Int.ofNat 0, Int.ofNat 0, Int.ofNat 0)).snd.snd.snd)) fun (r115 : Int) => (if ((List.getD r76.fst (Int.toNat 1) (Int.ofNat 0, Int.ofNat 0, Int.ofNat 0, Int.ofNat 0)).snd.fst == r115) = true then (Option.bind (edition_Check.c k 7 r76.fst) fun (r123 : Int) => (if (r123 == 0) = true then (Option.bind (edition_Check.c k 8 r76.fst) fun (r131 : Int) => (if (r131 == 480) = true then (if 1 ≤ (↑(List.length r76.fst) : Int) then (Option.bind (edition_Check.c k 7 (List.drop (Int.toNat 1) r76.fst)) fun (r142 : Int) => (if (r142 == 480) = true then (Option.bind (plexuslaw48_next.c k 7 [] (0, 0, [])) fun (r149 : List (Int × Int × Int × Int) × Int) => (if (r149.snd == 210) = true then (Option.bind (plexuslaw48_show.c k (1, 1, []) 1) fun (r157 : (Int × Int × Int × List Int) × Int) => (if (r157.snd == 4) = true then (Option.bind (plexuslaw48_fork.c k r11.fst r76.fst) fun (r168 : Int × Bool) => some (r168.fst == 1 && r168.snd == false)) else some (false))) else some (false))) else some (false))) else none) else some (false))) else some (false))) else some (false))) else none) else none) else some (false)) else none) else some (false)) else some (false))))) else none))))))))
theorem plexuslaw48_examples.m_c : plexuslaw48_examples.m = plexuslaw48_examples.c := by
  funext k
  rw [plexuslaw48_examples.m_eq, plexuslaw48_examples.c]
  simp only [edition_Check.m_c, edition_Digest.m_c, edition_Root.m_c, plexuslaw48_fork.m_c, plexuslaw48_next.m_c, plexuslaw48_show.m_c, seal_Join.m_c, seal_Tag.m_c, ← cWords.hid]
theorem examples_c (j : Nat) : plexuslaw48_examples.c (j + 300) = some true := by kernel_rfl
theorem examples_m (j : Nat) : plexuslaw48_examples.m (j + 300) = some true := by rw [plexuslaw48_examples.m_c]; exact examples_c j
end Go.Proofs.YtjnpcpnjcieheaaGreat.V48
