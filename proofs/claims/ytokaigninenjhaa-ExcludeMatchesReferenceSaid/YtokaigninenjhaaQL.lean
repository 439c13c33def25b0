/- Local: primes, residues and Legendre symbols below 200, by tables that the kernel checks. -/
import Derived.Test.YtokaigninenjhaaM22
import Derived.Test.YtokaigninenjhaaQV
import Derived.Test.YtokaigninenjhaaQBits
import Derived.KernelRfl
namespace Go.Proofs.YtokaigninenjhaaQ
set_option linter.unusedVariables false
set_option linter.unusedSimpArgs false
open Go Go.RowKit Go.Proofs.Ytokaigninenjhaa.V22 Go.Proofs.YtokaigninenjhaaW.PrintWords Go.Proofs.YtokaigninenjhaaW.PrintLast Go.Proofs.YtokaigninenjhaaW.PrintMore
theorem evT {α : Type} {c : Prop} [Decidable c] {f g : Nat → Option α} {r : α} (h : c) (k : Ev f r) : Ev (fun n => if c then f n else g n) r := Ev.congr (fun n => if_pos h) k
theorem evF {α : Type} {c : Prop} [Decidable c] {f g : Nat → Option α} {r : α} (h : ¬ c) (k : Ev g r) : Ev (fun n => if c then f n else g n) r := Ev.congr (fun n => if_neg h) k
/-- More rounds, the same answer. -/
theorem leg_more : ∀ (n : Nat) (p a b e : Int) (r : Int × Int), local_Legendre.cl0 0 n p a b e = some r → ∀ (k m : Nat), n ≤ m → local_Legendre.cl0 k m p a b e = some r
  | 0, p, a, b, e, r, h, k, m, hm => by cases h
  | n + 1, p, a, b, e, r, h, k, 0, hm => by omega
  | n + 1, p, a, b, e, r, h, k, m + 1, hm => by
    have ih := fun a b e h => leg_more n p a b e r h k m (by omega)
    rw [local_Legendre.cl0] at h ⊢
    split at h
    · rename_i c1
      rw [if_pos c1]
      split at h
      · rename_i c2
        rw [if_pos c2]
        split at h
        · cases h
        · rename_i c3
          rw [if_neg c3, if_neg c3]
          exact ih _ _ _ h
      · rename_i c2
        rw [if_neg c2]
        split at h
        · cases h
        · rename_i c3
          rw [if_neg c3]
          exact ih _ _ _ h
    · rename_i c1
      rw [if_neg c1]
      exact h
theorem prime_more : ∀ (n : Nat) (p v : Int) (r : Bool), local_prime.cl0 0 n p v = some r → ∀ (k m : Nat), n ≤ m → local_prime.cl0 k m p v = some r
  | 0, p, v, r, h, k, m, hm => by cases h
  | n + 1, p, v, r, h, k, 0, hm => by omega
  | n + 1, p, v, r, h, k, m + 1, hm => by
    rw [local_prime.cl0] at h ⊢
    split at h
    · rename_i c1
      rw [if_pos c1]
      split at h
      · cases h
      · rename_i c2
        rw [if_neg c2]
        split at h
        · rename_i c3
          rw [if_pos c3]; exact h
        · rename_i c3
          rw [if_neg c3]
          exact prime_more n p _ r h k m (by omega)
    · rename_i c1
      rw [if_neg c1]; exact h
/-- The squares modulo p, as bits. -/
def sqM (p : Nat) : Nat := (List.range p).foldl (fun m x => m ||| (if x = 0 then 0 else 1 <<< (x * x % p))) 0
/-- The Legendre symbol. -/
def Lv (p r : Nat) : Int := if r = 0 then 0 else if (sqM p).testBit r then 1 else -1
def oddP : List Nat := [3, 5, 7, 11, 13, 17, 19, 23, 29, 31, 37, 41, 43, 47, 53, 59, 61, 67, 71, 73, 79, 83, 89, 97, 101, 103, 107, 109, 113, 127, 131, 137, 139, 149, 151, 157, 163, 167, 173, 179, 181, 191, 193, 197, 199]
def LvM (m r : Nat) : Int := if r = 0 then 0 else if m.testBit r then 1 else -1
def chkP (p : Nat) : Bool := (match local_prime.cl0 0 20 (p : Int) 2 with | some b => b | none => false) && (fun m => (List.range p).all fun r => match local_Legendre.cl0 0 20 (p : Int) 1 (r : Int) (((p - 1) / 2 : Nat) : Int) with
  | some v => decide (v = (LvM m r, 0))
  | none => false) (sqM p)
theorem chkP_all : oddP.all chkP = true := by kernel_rfl
theorem chkP_of {p : Nat} (hp : p ∈ oddP) : chkP p = true := List.all_eq_true.1 chkP_all p hp
theorem oddP_bd : ∀ p ∈ oddP, 3 ≤ p ∧ p ≤ 199 ∧ p % 2 = 1 := by decide
theorem prime_e {p : Nat} (hp : p ∈ oddP) : Ev (fun k => local_prime.m k (p : Int)) true := by
  have h := chkP_of hp
  unfold chkP at h
  rw [Bool.and_eq_true] at h
  have h1 := h.1
  split at h1
  · rename_i b hb
    rw [h1] at hb
    refine ⟨20, fun k hk => ?_⟩
    rw [local_prime.m_c]
    exact prime_more 20 _ _ _ hb k k hk
  · cases h1
theorem mod_e {a p : Int} (hp : 0 < p) (h2 : p ≤ 1000) : Ev (fun k => local_mod.m k a p) (a % p) := by
  refine evX (fun k => local_mod.m_eq k _ _) (evF (by omega) (evF (by omega) ?_))
  have e : Go.Vx.divF BinOp.rem IntKind.i64 (IntKind.wrap IntKind.i64 (Go.Vx.divF BinOp.rem IntKind.i64 a p + p)) p = a % p := by
    rw [rem_tmod, rem_tmod, wrap_i64']
    have h3 : -p < Int.tmod a p ∧ Int.tmod a p < p := ⟨Int.lt_tmod_of_pos a hp, Int.tmod_lt_of_pos a hp⟩
    rw [w64 (by omega) (by omega), Int.tmod_eq_emod_of_nonneg (by omega), Int.add_emod_right]
    have := Int.mul_tdiv_add_tmod a p
    have e2 : Int.tmod a p = a - p * Int.tdiv a p := by omega
    rw [e2, Int.sub_emod, Int.mul_emod_right]
    simp
  rw [e]
  exact Ev.now _
/-- The Legendre symbol of a number. -/
def Lg (p : Nat) (a : Int) : Int := Lv p (a % (p : Int)).toNat
theorem Legendre_e {p : Nat} (hp : p ∈ oddP) (a : Int) : Ev (fun k => local_Legendre.m k a (p : Int)) (Lg p a, 0) := by
  obtain ⟨b1, b2, b3⟩ := oddP_bd p hp
  have h := chkP_of hp
  unfold chkP at h
  rw [Bool.and_eq_true] at h
  have h2 := List.all_eq_true.1 h.2 (a % (p : Int)).toNat (List.mem_range.2 (by
    have := Int.emod_lt_of_pos a (show (0 : Int) < p by omega)
    have := Int.emod_nonneg a (show (p : Int) ≠ 0 by omega)
    omega))
  have ea : (((a % (p : Int)).toNat : Nat) : Int) = a % (p : Int) := by
    have := Int.emod_nonneg a (show (p : Int) ≠ 0 by omega)
    omega
  have ed : Go.Vx.divF BinOp.quo IntKind.i64 (IntKind.wrap IntKind.i64 ((p : Int) - 1)) 2 = (((p - 1) / 2 : Nat) : Int) := by
    rw [wrap_i64', w64 (by omega) (by omega)]
    show IntKind.i64.wrap (Int.tdiv ((p : Int) - 1) 2) = _
    rw [Int.tdiv_eq_ediv_of_nonneg (by omega), show IntKind.i64.wrap (((p : Int) - 1) / 2) = wrap64 (((p : Int) - 1) / 2) from wrap_i64' _, w64 (by omega) (by omega)]
    omega
  refine evX (fun k => local_Legendre.m_eq k _ _) (evF (dF (by omega)) (evF (dF (by omega)) (Ev.bind (prime_e hp) (evF (by decide) (Ev.bind (mod_e (by omega) (by omega)) ?_)))))
  rw [ed]
  split at h2
  · rename_i v hv
    rw [decide_eq_true_eq] at h2
    rw [ea, h2] at hv
    refine ⟨20, fun k hk => ?_⟩
    show local_Legendre.l0 k k _ _ _ _ = _
    rw [local_Legendre.l0_c]
    exact leg_more 20 _ _ _ _ _ hv k k hk
  · cases h2
end Go.Proofs.YtokaigninenjhaaQ
