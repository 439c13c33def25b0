/- local.root: the square root by floats, walked by hand. -/
import Derived.Test.YtokaigninenjhaaProg
import Derived.Test.YtokaigninenjhaaWMore
import Derived.Test.YtokaigninenjhaaQFl
import Derived.Laws.Externs
namespace Go.Proofs.Ytokaigninenjhaa.P22
open Go.RowKit Go.Proofs.YtokaigninenjhaaW.PrintWords Go.Proofs.YtokaigninenjhaaW.PrintLast Go.Proofs.YtokaigninenjhaaW.PrintMore
set_option linter.unusedVariables false
theorem sqrt46 (x b : Nat) (h : FloatKind.f64.format.sqrt x = some b) (w : World) : (callFunc 83 #[.float .f64 x]).run Try.prog w = .ok (.value (.float .f64 b)) w := by
  rw [run_callFunc_extern (e := Extern.MathSqrt.sqrt) Try.func83 (by kernel_rfl) (by kernel_rfl) (by kernel_rfl) (by kernel_rfl)]
  have e : Extern.MathSqrt.sqrt #[.float .f64 x] = (match FloatKind.f64.format.sqrt x with | some r => pure (.float .f64 r) | none => do pure (.float .f64 (← choose (.nanBits .f64 x x)))) := rfl
  rw [e, h]
  rfl
theorem sqrt_calls (x b : Nat) (h : FloatKind.f64.format.sqrt x = some b) (w : World) : Calls Try.prog 75 #[.float .f64 x] w fun e w' => e = .returned (.float .f64 b) ∧ w' = w := by
  have h46 := sqrt46 x b h w
  go_enter Try.func75, Try.ntmps75
  go_wp2
  go_ret
  exact ⟨rfl, rfl⟩
/-- The greatest number whose square is not greater. -/
def isq : Nat → Nat
  | 0 => 0
  | n + 1 => if (isq n + 1) * (isq n + 1) ≤ n + 1 then isq n + 1 else isq n
theorem isq_spec : ∀ n, isq n * isq n ≤ n ∧ n < (isq n + 1) * (isq n + 1)
  | 0 => ⟨by decide, by decide⟩
  | n + 1 => by
    obtain ⟨h1, h2⟩ := isq_spec n
    unfold isq
    split
    · rename_i h
      refine ⟨h, ?_⟩
      generalize isq n = r at *
      have e : (r + 1 + 1) * (r + 1 + 1) = (r + 1) * (r + 1) + 2 * (r + 1) + 1 := by
        simp only [Nat.add_mul, Nat.mul_add, Nat.mul_one, Nat.one_mul]; omega
      omega
    · exact ⟨by omega, by omega⟩
theorem isq_uniq {n r : Nat} (h1 : r * r ≤ n) (h2 : n < (r + 1) * (r + 1)) : r = isq n := by
  obtain ⟨h3, h4⟩ := isq_spec n
  rcases Nat.lt_trichotomy r (isq n) with h | h | h
  · have := Nat.mul_le_mul (show r + 1 ≤ isq n from h) (show r + 1 ≤ isq n from h); omega
  · exact h
  · have := Nat.mul_le_mul (show isq n + 1 ≤ r from h) (show isq n + 1 ≤ r from h); omega
def local_root.f (n : Int) : Option (Int × Bool) := if n < 0 then some (0, false) else some ((isq n.toNat : Int), ((isq n.toNat * isq n.toNat : Nat) : Int) == n)
theorem u64_mul {a b : Nat} (h : a * b < 18446744073709551616) : IntKind.u64.wrap ((a : Int) * (b : Int)) = ((a * b : Nat) : Int) := by
  rw [IntKind.wrap_u64, ← Int.natCast_mul]
  omega
set_option maxRecDepth 100000 in
set_option maxHeartbeats 4000000 in
theorem local_root.calls (n : Int) (r : Int × Bool) (w : World) (h0 : -9223372036854775808 ≤ n) (h1 : n < 9223372036854775808) (h : local_root.f n = some r) :
    Calls Try.prog 48 #[.int .i64 n] w fun e w' => e = .returned (.tuple #[.int .i64 r.1, .bool r.2]) ∧ w' = w := by
  unfold local_root.f at h
  by_cases hn : n < 0
  · rw [if_pos hn] at h
    obtain rfl := Option.some.inj h
    go_enter Try.func48, Try.ntmps48
    go_wp2
    go_ret2
    exact ⟨rfl, rfl⟩
  · rw [if_neg hn] at h
    obtain rfl := Option.some.inj h
    obtain ⟨N, rfl⟩ := Int.eq_ofNat_of_zero_le (a := n) (by omega)
    rw [Int.toNat_natCast]
    obtain ⟨b, R, e1, e2, e3⟩ := Go.Proofs.YtokaigninenjhaaQ.sqrt_small N (by omega)
    have en : FloatKind.f64.nearest (N : Int) = Ieee.double.nearest false N 0 := by
      have hz : decide ((N : Int) < 0) = false := by simp
      show Ieee.double.nearest (decide ((N : Int) < 0)) (N : Int).natAbs 0 = _
      rw [hz, Int.natAbs_natCast]
    have hq : FloatKind.f64.format.sqrt (FloatKind.f64.nearest (N : Int)) = some b := by rw [en]; exact e1
    have hc : ∀ w, (Conv.floatToInt .f64 b .u64).run Try.prog w = .ok (.int .u64 (R : Int)) w := fun w => by
      have hd : (FloatKind.f64.decode b).toInt .zero = some (R : Int) := e2
      unfold Conv.floatToInt
      rw [hd]
      have hr : IntKind.u64.min ≤ (R : Int) ∧ (R : Int) ≤ IntKind.u64.max := by
        rw [show IntKind.u64.min = 0 from rfl, show IntKind.u64.max = 18446744073709551615 from rfl]; omega
      simp [hr]
    have hf : ∀ w, (convert 3 107 (.int .i64 (N : Int))).run Try.prog w = .ok (.float .f64 (FloatKind.f64.nearest (N : Int))) w := fun w => by kernel_rfl
    have hg : ∀ w, (convert 107 96 (.float .f64 b)).run Try.prog w = (Conv.floatToInt .f64 b .u64).run Try.prog w := fun w => by kernel_rfl
    have hc2 : ∀ w, (convert 107 96 (.float .f64 b)).run Try.prog w = .ok (.int .u64 (R : Int)) w := fun w => (hg w).trans (hc w)
    clear hc hg e1 e2 en
    have hu : IntKind.u64.wrap (N : Int) = (N : Int) := by rw [IntKind.wrap_u64]; omega
    go_enter Try.func48, Try.ntmps48
    go_wp2_with (first | (go_at_call 75; refine (sqrt_calls _ _ hq _).mono ?_; rintro e w' ⟨rfl, rfl⟩))
    have hNb : ∀ r : Nat, r * r ≤ N → r ≤ 3037000499 := fun r hr => by
      rcases Nat.lt_or_ge 3037000499 r with q | q
      · exfalso
        have := Nat.mul_le_mul (show 3037000500 ≤ r from q) (show 3037000500 ≤ r from q)
        omega
      · exact q
    go_loop [4] (fun x => ∃ r : Nat, r < 4294967296 ∧ x = .int .u64 (r : Int)) (fun x => (intOf x).toNat)
    case atStart => exact ⟨R, e3, rfl⟩
    case round =>
      obtain ⟨r, hr, rfl⟩ := hrel
      have hm : r * r < 18446744073709551616 := by
        have := Nat.mul_le_mul (show r ≤ 4294967295 by omega) (show r ≤ 4294967295 by omega)
        omega
      have em := u64_mul hm
      by_cases hlt : (N : Int) < ((r * r : Nat) : Int)
      · have hr0 : r ≠ 0 := fun q => by rw [q] at hlt; omega
        have ed : IntKind.u64.wrap ((r : Int) - 1) = ((r - 1 : Nat) : Int) := by rw [IntKind.wrap_u64]; omega
        have hr1 : r - 1 < 4294967296 := by omega
        have hr2 : r - 1 < r := by omega
        clear hm hr hr0 h0 h1
        go_wp2
        refine ⟨⟨r - 1, hr1, rfl⟩, ?_⟩
        simp only [intOf, Int.toNat_natCast]
        exact hr2
      · have hge : r * r ≤ N := by omega
        clear hm h0 h1 hr
        go_wp2
        go_loop [4] (fun x => ∃ r : Nat, r * r ≤ N ∧ x = .int .u64 (r : Int)) (fun x => 4294967296 - (intOf x).toNat)
        case atStart => exact ⟨r, hge, rfl⟩
        case round =>
          obtain ⟨q, hq2, rfl⟩ := hrel
          have hb := hNb q hq2
          obtain ⟨s, hs⟩ : ∃ s : Nat, s = q + 1 := ⟨_, rfl⟩
          have ea : IntKind.u64.wrap ((q : Int) + 1) = (s : Int) := by rw [IntKind.wrap_u64]; omega
          have em2 : IntKind.u64.wrap ((s : Int) * (s : Int)) = ((s * s : Nat) : Int) := u64_mul (by
            have := Nat.mul_le_mul (show s ≤ 3037000500 by omega) (show s ≤ 3037000500 by omega)
            omega)
          have em3 : IntKind.u64.wrap ((q : Int) * (q : Int)) = ((q * q : Nat) : Int) := u64_mul (by
            have := Nat.mul_le_mul hb hb
            omega)
          have ec : IntKind.i64.wrap (q : Int) = (q : Int) := by rw [IntKind.wrap_i64]; omega
          by_cases hle : ((s * s : Nat) : Int) ≤ (N : Int)
          · have hle2 : s * s ≤ N := by omega
            have hs1 : 4294967296 - s < 4294967296 - q := by omega
            clear hb hNb hs
            go_wp2
            refine ⟨⟨s, hle2, rfl⟩, ?_⟩
            simp only [intOf, Int.toNat_natCast]
            exact hs1
          · have hgt : N < (q + 1) * (q + 1) := by rw [← hs]; omega
            obtain rfl : q = isq N := isq_uniq hq2 hgt
            clear hb hNb hgt hs
            go_wp2
            go_ret2
            exact ⟨by simp, rfl⟩
end Go.Proofs.Ytokaigninenjhaa.P22
