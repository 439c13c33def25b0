/- Steps of digests, and what undoes them: numbers below 2^64. -/
import Derived.Test.YtjnpcpnjcieheaaGreatQBits
import Derived.KernelRfl
namespace Go.Proofs.YtjnpcpnjcieheaaGreatQ
set_option linter.unusedVariables false
set_option linter.unusedSimpArgs false
open Go.RowKit Go.Proofs.YtjnpcpnjcieheaaGreatW.PrintWords Go.Proofs.YtjnpcpnjcieheaaGreatW.PrintLast Go.Proofs.YtjnpcpnjcieheaaGreatW.PrintMore
theorem xor64 {a b : Nat} (ha : a < 2 ^ 64) (hb : b < 2 ^ 64) : Go.bits .xor .u64 (a : Int) (b : Int) = ((a ^^^ b : Nat) : Int) := by
  unfold Go.bits
  have ha' : a % 2 ^ 64 = a := Nat.mod_eq_of_lt ha
  have hb' : b % 2 ^ 64 = b := Nat.mod_eq_of_lt hb
  show IntKind.u64.wrap ((BitVec.ofInt IntKind.u64.bits (a : Int) ^^^ BitVec.ofInt IntKind.u64.bits (b : Int)).toNat : Int) = _
  have e : (BitVec.ofInt IntKind.u64.bits (a : Int) ^^^ BitVec.ofInt IntKind.u64.bits (b : Int)).toNat = a ^^^ b := by
    rw [BitVec.toNat_xor, BitVec.ofInt_natCast, BitVec.ofInt_natCast, BitVec.toNat_ofNat, BitVec.toNat_ofNat]
    rw [show (2 : Nat) ^ IntKind.u64.bits = 2 ^ 64 from rfl, ha', hb']
  rw [e]
  have := Nat.xor_lt_two_pow ha hb
  exact wu64 (by omega) (by omega)
theorem mul64 (a b : Nat) : IntKind.u64.wrap ((a : Int) * (b : Int)) = ((a * b % 2 ^ 64 : Nat) : Int) := by
  rw [← Int.natCast_mul, IntKind.wrap_u64]
  omega
def s29 (b : Nat) : Nat := b ^^^ b >>> 29
def u29 (b : Nat) : Nat := b ^^^ b >>> 29 ^^^ b >>> 58
theorem sh_87 {b : Nat} (h : b < 2 ^ 64) : b >>> 87 = 0 := by
  rw [Nat.shiftRight_eq_div_pow]
  exact Nat.div_eq_of_lt (Nat.lt_of_lt_of_le h (by decide))
theorem s29_lt {b : Nat} (h : b < 2 ^ 64) : s29 b < 2 ^ 64 := Nat.xor_lt_two_pow h (Nat.lt_of_le_of_lt (by rw [Nat.shiftRight_eq_div_pow]; exact Nat.div_le_self _ _) h)
theorem u29_lt {b : Nat} (h : b < 2 ^ 64) : u29 b < 2 ^ 64 := Nat.xor_lt_two_pow (s29_lt h) (Nat.lt_of_le_of_lt (by rw [Nat.shiftRight_eq_div_pow]; exact Nat.div_le_self _ _) h)
theorem xor_mid (a b c d : Nat) : a ^^^ b ^^^ (b ^^^ c) ^^^ (c ^^^ d) = a ^^^ d := by
  rw [show a ^^^ b ^^^ (b ^^^ c) = a ^^^ c by rw [Nat.xor_assoc, ← Nat.xor_assoc b b, Nat.xor_self, Nat.zero_xor], Nat.xor_assoc, ← Nat.xor_assoc c c, Nat.xor_self, Nat.zero_xor]
theorem u_s {b : Nat} (h : b < 2 ^ 64) : u29 (s29 b) = b := by
  unfold u29 s29
  rw [Nat.shiftRight_xor_distrib, Nat.shiftRight_xor_distrib, ← Nat.shiftRight_add, ← Nat.shiftRight_add, xor_mid, sh_87 h, Nat.xor_zero]
theorem s_u {b : Nat} (h : b < 2 ^ 64) : s29 (u29 b) = b := by
  unfold u29 s29
  rw [Nat.shiftRight_xor_distrib, Nat.shiftRight_xor_distrib, ← Nat.shiftRight_add, ← Nat.shiftRight_add, sh_87 h, Nat.xor_zero]
  rw [Nat.xor_assoc b, Nat.xor_assoc, Nat.xor_self, Nat.xor_zero]
def stepN (h w : Nat) : Nat := s29 ((h ^^^ w) * 11400714819323198485 % 2 ^ 64) * 13787848793156543929 % 2 ^ 64
def backN (h x : Nat) : Nat := u29 (x * 10871156337175269513 % 2 ^ 64) * 17428512612931826493 % 2 ^ 64 ^^^ h
theorem cancel64 {x p q : Nat} (hx : x < 2 ^ 64) (hpq : p * q % 2 ^ 64 = 1) : x * p % 2 ^ 64 * q % 2 ^ 64 = x := by
  rw [Nat.mod_mul_mod, Nat.mul_assoc, Nat.mul_mod, hpq, Nat.mul_one, Nat.mod_mod, Nat.mod_eq_of_lt hx]
theorem stepN_lt (h w : Nat) : stepN h w < 2 ^ 64 := Nat.mod_lt _ (by decide)
theorem back_step {h w : Nat} (hh : h < 2 ^ 64) (hw : w < 2 ^ 64) : backN h (stepN h w) = w := by
  unfold backN stepN
  rw [cancel64 (s29_lt (Nat.mod_lt _ (by decide))) (by decide), u_s (Nat.mod_lt _ (by decide)), cancel64 (Nat.xor_lt_two_pow hh hw) (by decide), Nat.xor_comm h w, Nat.xor_assoc, Nat.xor_self, Nat.xor_zero]
theorem step_back {h x : Nat} (hh : h < 2 ^ 64) (hx : x < 2 ^ 64) : stepN h (backN h x) = x := by
  unfold backN stepN
  rw [Nat.xor_comm _ h, ← Nat.xor_assoc, Nat.xor_self, Nat.zero_xor, cancel64 (u29_lt (Nat.mod_lt _ (by decide))) (by decide), s_u (Nat.mod_lt _ (by decide)), cancel64 hx (by decide)]
theorem stepN_inj {h w v : Nat} (hh : h < 2 ^ 64) (hw : w < 2 ^ 64) (hv : v < 2 ^ 64) : stepN h w = stepN h v ↔ w = v := by
  refine ⟨fun e => ?_, fun e => by rw [e]⟩
  rw [← back_step hh hw, e, back_step hh hv]
theorem stepN_comm (h w : Nat) : stepN h w = stepN w h := by unfold stepN; rw [Nat.xor_comm]
theorem backN_lt {h x : Nat} (hh : h < 2 ^ 64) : backN h x < 2 ^ 64 := Nat.xor_lt_two_pow (Nat.mod_lt _ (by decide)) hh
theorem div29 (a : Nat) : ((a : Nat) : Int) / (536870912 : Int) = ((a >>> 29 : Nat) : Int) := by rw [Nat.shiftRight_eq_div_pow]; omega
theorem div58 (a : Nat) : ((a : Nat) : Int) / (288230376151711744 : Int) = ((a >>> 58 : Nat) : Int) := by rw [Nat.shiftRight_eq_div_pow]; omega
theorem sr_lt {a : Nat} (h : a < 2 ^ 64) (k : Nat) : a >>> k < 2 ^ 64 := Nat.lt_of_le_of_lt (by rw [Nat.shiftRight_eq_div_pow]; exact Nat.div_le_self _ _) h
end Go.Proofs.YtjnpcpnjcieheaaGreatQ
