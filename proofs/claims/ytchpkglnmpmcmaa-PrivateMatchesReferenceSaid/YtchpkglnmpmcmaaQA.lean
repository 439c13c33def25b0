/- Several texts joined. -/
import Derived.Test.YtchpkglnmpmcmaaWMore
import Derived.Laws.BitsAllLaws
import Derived.Laws.BitsLemmas
import Derived.Laws.Bits64
import Derived.KernelRfl
import Derived.Test.YtchpkglnmpmcmaaS47A
import Derived.Lib.ItoaNum
/- Plain facts on numbers of 64 bits: wraps, bitwise operations on small numbers, numbers of bits. -/
namespace Go.Proofs.YtchpkglnmpmcmaaQ
set_option linter.unusedVariables false
set_option linter.unusedSimpArgs false
open Go.RowKit

theorem w64 {x : Int} (h0 : -9223372036854775808 ≤ x) (h1 : x < 9223372036854775808) : wrap64 x = x := by unfold wrap64; omega
theorem wu64 {x : Int} (h0 : 0 ≤ x) (h1 : x < 18446744073709551616) : IntKind.u64.wrap x = x := by
  rw [IntKind.wrap_u64]
  omega
theorem wraps_i64 (n : Int) (h0 : 0 ≤ n) (h1 : n < 2 ^ 63) : IntKind.i64.wrap n = n := by rw [IntKind.wrap_i64]; omega
theorem and_nat {a b : Nat} (ha : a < 2 ^ 63) (hb : b < 2 ^ 63) : Go.bits .and .i64 (a : Int) (b : Int) = ((a &&& b : Nat) : Int) := (bits_nat .i64 63 (by decide) wraps_i64 a b ha hb).1
theorem xor_nat {a b : Nat} (ha : a < 2 ^ 63) (hb : b < 2 ^ 63) : Go.bits .xor .i64 (a : Int) (b : Int) = ((a ^^^ b : Nat) : Int) := by
  have ha' : a % 2 ^ 64 = a := Nat.mod_eq_of_lt (by omega)
  have hb' : b % 2 ^ 64 = b := Nat.mod_eq_of_lt (by omega)
  have e : (BitVec.ofInt IntKind.i64.bits (a : Int) ^^^ BitVec.ofInt IntKind.i64.bits (b : Int)).toNat = a ^^^ b := by
    rw [BitVec.toNat_xor, BitVec.ofInt_natCast, BitVec.ofInt_natCast, BitVec.toNat_ofNat, BitVec.toNat_ofNat]
    rw [show (2 : Nat) ^ IntKind.i64.bits = 2 ^ 64 from rfl, ha', hb']
  show IntKind.i64.wrap ((BitVec.ofInt IntKind.i64.bits (a : Int) ^^^ BitVec.ofInt IntKind.i64.bits (b : Int)).toNat : Int) = _
  rw [e]
  refine wraps_i64 _ (Int.natCast_nonneg _) ?_
  have := Nat.xor_lt_two_pow ha hb
  exact_mod_cast this

/-- The number of bits among the lowest n ones. -/
def pop : Nat → Nat → Nat
  | 0, _ => 0
  | n + 1, x => x % 2 + pop n (x / 2)
theorem pop_le (n : Nat) : ∀ x, pop n x ≤ n := by
  induction n with
  | zero => intro x; exact Nat.le_refl _
  | succ n ih => intro x; have := ih (x / 2); simp only [pop]; omega
end Go.Proofs.YtchpkglnmpmcmaaQ
/- Steps of digests, and what undoes them: numbers below 2^64. -/
namespace Go.Proofs.YtchpkglnmpmcmaaQ
set_option linter.unusedVariables false
set_option linter.unusedSimpArgs false
open Go.RowKit Go.Proofs.YtchpkglnmpmcmaaW.PrintWords Go.Proofs.YtchpkglnmpmcmaaW.PrintLast Go.Proofs.YtchpkglnmpmcmaaW.PrintMore
theorem xor64 {a b : Nat} (ha : a < 2 ^ 64) (hb : b < 2 ^ 64) : Go.bits .xor .u64 (a : Int) (b : Int) = ((a ^^^ b : Nat) : Int) := by
  unfold Go.bits
  have ha' : a % 2 ^ 64 = a := Nat.mod_eq_of_lt ha
  have hb' : b % 2 ^ 64 = b := Nat.mod_eq_of_lt hb
  show IntKind.u64.wrap ((BitVec.ofInt IntKind.u64.bits (a : Int) ^^^ BitVec.ofInt IntKind.u64.bits (b : Int)).toNat : Int) = _
  have e : (BitVec.ofInt IntKind.u64.bits (a : Int) ^^^ BitVec.ofInt IntKind.u64.bits (b : Int)).toNat = a ^^^ b := by
    rw [BitVec.toNat_xor, BitVec.ofInt_natCast, BitVec.ofInt_natCast, BitVec.toNat_ofNat, BitVec.toNat_ofNat]
    rw [show (2 : Nat) ^ IntKind.u64.bits = 2 ^ 64 from rfl, ha', hb']
  rw [e]
  have := Nat.xor_lt_two_pow ha hb
  exact wu64 (by omega) (by omega)
theorem mul64 (a b : Nat) : IntKind.u64.wrap ((a : Int) * (b : Int)) = ((a * b % 2 ^ 64 : Nat) : Int) := by
  rw [← Int.natCast_mul, IntKind.wrap_u64]
  omega
def s29 (b : Nat) : Nat := b ^^^ b >>> 29
def u29 (b : Nat) : Nat := b ^^^ b >>> 29 ^^^ b >>> 58
theorem sh_87 {b : Nat} (h : b < 2 ^ 64) : b >>> 87 = 0 := by
  rw [Nat.shiftRight_eq_div_pow]
  exact Nat.div_eq_of_lt (Nat.lt_of_lt_of_le h (by decide))
theorem s29_lt {b : Nat} (h : b < 2 ^ 64) : s29 b < 2 ^ 64 := Nat.xor_lt_two_pow h (Nat.lt_of_le_of_lt (by rw [Nat.shiftRight_eq_div_pow]; exact Nat.div_le_self _ _) h)
theorem u29_lt {b : Nat} (h : b < 2 ^ 64) : u29 b < 2 ^ 64 := Nat.xor_lt_two_pow (s29_lt h) (Nat.lt_of_le_of_lt (by rw [Nat.shiftRight_eq_div_pow]; exact Nat.div_le_self _ _) h)
theorem xor_mid (a b c d : Nat) : a ^^^ b ^^^ (b ^^^ c) ^^^ (c ^^^ d) = a ^^^ d := by
  rw [show a ^^^ b ^^^ (b ^^^ c) = a ^^^ c by rw [Nat.xor_assoc, ← Nat.xor_assoc b b, Nat.xor_self, Nat.zero_xor], Nat.xor_assoc, ← Nat.xor_assoc c c, Nat.xor_self, Nat.zero_xor]
theorem u_s {b : Nat} (h : b < 2 ^ 64) : u29 (s29 b) = b := by
  unfold u29 s29
  rw [Nat.shiftRight_xor_distrib, Nat.shiftRight_xor_distrib, ← Nat.shiftRight_add, ← Nat.shiftRight_add, xor_mid, sh_87 h, Nat.xor_zero]
theorem s_u {b : Nat} (h : b < 2 ^ 64) : s29 (u29 b) = b := by
  unfold u29 s29
  rw [Nat.shiftRight_xor_distrib, Nat.shiftRight_xor_distrib, ← Nat.shiftRight_add, ← Nat.shiftRight_add, sh_87 h, Nat.xor_zero]
  rw [Nat.xor_assoc b, Nat.xor_assoc, Nat.xor_self, Nat.xor_zero]
def stepN (h w : Nat) : Nat := s29 ((h ^^^ w) * 11400714819323198485 % 2 ^ 64) * 13787848793156543929 % 2 ^ 64
def backN (h x : Nat) : Nat := u29 (x * 10871156337175269513 % 2 ^ 64) * 17428512612931826493 % 2 ^ 64 ^^^ h
theorem cancel64 {x p q : Nat} (hx : x < 2 ^ 64) (hpq : p * q % 2 ^ 64 = 1) : x * p % 2 ^ 64 * q % 2 ^ 64 = x := by
  rw [Nat.mod_mul_mod, Nat.mul_assoc, Nat.mul_mod, hpq, Nat.mul_one, Nat.mod_mod, Nat.mod_eq_of_lt hx]
theorem stepN_lt (h w : Nat) : stepN h w < 2 ^ 64 := Nat.mod_lt _ (by decide)
theorem back_step {h w : Nat} (hh : h < 2 ^ 64) (hw : w < 2 ^ 64) : backN h (stepN h w) = w := by
  unfold backN stepN
  rw [cancel64 (s29_lt (Nat.mod_lt _ (by decide))) (by decide), u_s (Nat.mod_lt _ (by decide)), cancel64 (Nat.xor_lt_two_pow hh hw) (by decide), Nat.xor_comm h w, Nat.xor_assoc, Nat.xor_self, Nat.xor_zero]
theorem step_back {h x : Nat} (hh : h < 2 ^ 64) (hx : x < 2 ^ 64) : stepN h (backN h x) = x := by
  unfold backN stepN
  rw [Nat.xor_comm _ h, ← Nat.xor_assoc, Nat.xor_self, Nat.zero_xor, cancel64 (u29_lt (Nat.mod_lt _ (by decide))) (by decide), s_u (Nat.mod_lt _ (by decide)), cancel64 hx (by decide)]
theorem stepN_inj {h w v : Nat} (hh : h < 2 ^ 64) (hw : w < 2 ^ 64) (hv : v < 2 ^ 64) : stepN h w = stepN h v ↔ w = v := by
  refine ⟨fun e => ?_, fun e => by rw [e]⟩
  rw [← back_step hh hw, e, back_step hh hv]
theorem stepN_comm (h w : Nat) : stepN h w = stepN w h := by unfold stepN; rw [Nat.xor_comm]
theorem backN_lt {h x : Nat} (hh : h < 2 ^ 64) : backN h x < 2 ^ 64 := Nat.xor_lt_two_pow (Nat.mod_lt _ (by decide)) hh
theorem div29 (a : Nat) : ((a : Nat) : Int) / (536870912 : Int) = ((a >>> 29 : Nat) : Int) := by rw [Nat.shiftRight_eq_div_pow]; omega
theorem div58 (a : Nat) : ((a : Nat) : Int) / (288230376151711744 : Int) = ((a >>> 58 : Nat) : Int) := by rw [Nat.shiftRight_eq_div_pow]; omega
theorem sr_lt {a : Nat} (h : a < 2 ^ 64) (k : Nat) : a >>> k < 2 ^ 64 := Nat.lt_of_le_of_lt (by rw [Nat.shiftRight_eq_div_pow]; exact Nat.div_le_self _ _) h
end Go.Proofs.YtchpkglnmpmcmaaQ
/- Steps of digests, as seal computes them. -/
namespace Go.Proofs.YtchpkglnmpmcmaaQ
set_option linter.unusedVariables false
set_option linter.unusedSimpArgs false
open Go.RowKit Go.Proofs.Ytchpkglnmpmcmaa.P47 Go.Proofs.YtchpkglnmpmcmaaW.PrintWords Go.Proofs.YtchpkglnmpmcmaaW.PrintLast Go.Proofs.YtchpkglnmpmcmaaW.PrintMore
theorem dstep_f {h w : Nat} (hh : h < 2 ^ 64) (hw : w < 2 ^ 64) : seal_digest_step.f (h : Int) (w : Int) = some ((stepN h w : Nat) : Int) := by
  unfold seal_digest_step.f
  have ht : (h ^^^ w) * 11400714819323198485 % 2 ^ 64 < 2 ^ 64 := Nat.mod_lt _ (by decide)
  rw [xor64 hh hw, show ((11400714819323198485 : Int)) = ((11400714819323198485 : Nat) : Int) from rfl, mul64, div29, xor64 ht (sr_lt ht 29), show ((13787848793156543929 : Int)) = ((13787848793156543929 : Nat) : Int) from rfl, mul64]
  rfl
end Go.Proofs.YtchpkglnmpmcmaaQ
/- Trees of digests: roots, paths, sides, and what one change does. -/
namespace Go.Proofs.YtchpkglnmpmcmaaQ
set_option linter.unusedVariables false
set_option linter.unusedSimpArgs false
def U (x : Int) : Prop := 0 ≤ x ∧ x < 18446744073709551616
theorem U.nat {x : Int} (h : U x) : ∃ n : Nat, x = n ∧ n < 2 ^ 64 := ⟨x.toNat, by have := h.1; omega, by have := h.1; have := h.2; omega⟩
theorem U.of {n : Nat} (h : n < 2 ^ 64) : U (n : Int) := ⟨by omega, by omega⟩
def jn (a b : Int) : Int := ((stepN (stepN 1785686382 a.toNat) b.toNat : Nat) : Int)
theorem jn_U (a b : Int) : U (jn a b) := U.of (stepN_lt _ _)
theorem jn_left {a c b : Int} (ha : U a) (hc : U c) (hb : U b) : jn a b = jn c b ↔ a = c := by
  obtain ⟨A, rfl, hA⟩ := ha.nat
  obtain ⟨B, rfl, hB⟩ := hb.nat
  obtain ⟨C, rfl, hC⟩ := hc.nat
  refine ⟨fun h => ?_, fun h => by rw [h]⟩
  unfold jn at h
  simp only [Int.toNat_natCast] at h
  have h1 : stepN (stepN 1785686382 A) B = stepN (stepN 1785686382 C) B := by omega
  rw [stepN_comm _ B, stepN_comm _ B] at h1
  have h2 := (stepN_inj hB (stepN_lt _ _) (stepN_lt _ _)).1 h1
  have h3 := (stepN_inj (by decide) hA hC).1 h2
  rw [h3]
theorem jn_right {a b c : Int} (ha : U a) (hb : U b) (hc : U c) : jn a b = jn a c ↔ b = c := by
  obtain ⟨A, rfl, hA⟩ := ha.nat
  obtain ⟨B, rfl, hB⟩ := hb.nat
  obtain ⟨C, rfl, hC⟩ := hc.nat
  refine ⟨fun h => ?_, fun h => by rw [h]⟩
  unfold jn at h
  simp only [Int.toNat_natCast] at h
  have h1 : stepN (stepN 1785686382 A) B = stepN (stepN 1785686382 A) C := by omega
  rw [(stepN_inj (stepN_lt _ _) hB hC).1 h1]
def up (h o : Int) (s : Bool) : Int := if s then jn h o else jn o h
theorem up_U (h o : Int) (s : Bool) : U (up h o s) := by unfold up; split <;> exact jn_U _ _
theorem up_h {h g o : Int} (s : Bool) (hh : U h) (hg : U g) (ho : U o) : up h o s = up g o s ↔ h = g := by
  unfold up; cases s
  · exact jn_right ho hh hg
  · exact jn_left hh hg ho
theorem up_o {h o p : Int} (s : Bool) (hh : U h) (ho : U o) (hp : U p) : up h o s = up h p s ↔ o = p := by
  unfold up; cases s
  · exact jn_left ho hp hh
  · exact jn_right hh ho hp
def halfN (n : Nat) : Nat := 2 ^ (n - 1).log2
theorem halfN_pos (n : Nat) : 1 ≤ halfN n := Nat.one_le_two_pow
theorem halfN_lt {n : Nat} (h : 2 ≤ n) : halfN n < n := by
  have := Nat.log2_self_le (n := n - 1) (by omega)
  unfold halfN; omega
def root (e : Int) (l : List Int) : Int :=
  if h : l.length ≤ 1 then l.headD e else jn (root e (l.take (halfN l.length))) (root e (l.drop (halfN l.length)))
termination_by l.length
decreasing_by
  · have := halfN_lt (n := l.length) (by omega); simp; omega
  · have := halfN_pos l.length; simp; omega
def sides (n i : Nat) : List Bool :=
  if h : n ≤ 1 then [] else if i < halfN n then sides (halfN n) i ++ [true] else sides (n - halfN n) (i - halfN n) ++ [false]
termination_by n
decreasing_by
  · exact halfN_lt (by omega)
  · have := halfN_pos n; omega
def path (e : Int) (l : List Int) (i : Nat) : List Int :=
  if h : l.length ≤ 1 then [] else if i < halfN l.length then path e (l.take (halfN l.length)) i ++ [root e (l.drop (halfN l.length))] else path e (l.drop (halfN l.length)) (i - halfN l.length) ++ [root e (l.take (halfN l.length))]
termination_by l.length
decreasing_by
  · have := halfN_lt (n := l.length) (by omega); simp; omega
  · have := halfN_pos l.length; simp; omega
def fold (h : Int) : List Int → List Bool → Int
  | o :: os, s :: ss => fold (up h o s) os ss
  | _, _ => h
theorem root_U (e : Int) (he : U e) : ∀ (n : Nat) (l : List Int), l.length = n → (∀ x ∈ l, U x) → U (root e l)
  | n, l, hn, hl => by
    rw [root]; split
    · cases l with
      | nil => exact he
      | cons a t => exact hl a (by simp)
    · exact jn_U _ _
theorem path_U (e : Int) (he : U e) : ∀ (n : Nat) (l : List Int), l.length = n → (∀ x ∈ l, U x) → ∀ i, ∀ x ∈ path e l i, U x := by
  intro n
  induction n using Nat.strongRecOn with
  | ind n ih =>
    intro l hn hl i x hx
    rw [path] at hx
    split at hx
    · simp at hx
    · rename_i h1
      have h2 := halfN_lt (n := l.length) (by omega)
      have h3 := halfN_pos l.length
      split at hx
      · rcases List.mem_append.1 hx with h | h
        · exact ih (halfN l.length) (by omega) _ (by simp; omega) (fun y hy => hl y (List.mem_of_mem_take hy)) i x h
        · rw [List.mem_singleton.1 h]
          exact root_U e he _ _ rfl (fun y hy => hl y (List.mem_of_mem_drop hy))
      · rcases List.mem_append.1 hx with h | h
        · exact ih (l.length - halfN l.length) (by omega) _ (by simp) (fun y hy => hl y (List.mem_of_mem_drop hy)) _ x h
        · rw [List.mem_singleton.1 h]
          exact root_U e he _ _ rfl (fun y hy => hl y (List.mem_of_mem_take hy))
theorem path_len (e : Int) : ∀ (n : Nat) (l : List Int), l.length = n → ∀ i, (path e l i).length = (sides n i).length := by
  intro n
  induction n using Nat.strongRecOn with
  | ind n ih =>
    intro l hn i
    rw [path, sides, hn]
    split
    · rfl
    · rename_i h1
      have h2 := halfN_lt (n := n) (by omega)
      have h3 := halfN_pos n
      split
      · simp only [List.length_append, List.length_singleton]
        rw [ih (halfN n) (by omega) _ (by simp; omega)]
      · simp only [List.length_append, List.length_singleton]
        rw [ih (n - halfN n) (by omega) _ (by simp; omega)]
theorem fold_app : ∀ (os : List Int) (ss : List Bool) (h : Int) (o : Int) (s : Bool), os.length = ss.length → fold h (os ++ [o]) (ss ++ [s]) = up (fold h os ss) o s
  | [], [], h, o, s, _ => rfl
  | [], _ :: _, h, o, s, e => by simp at e
  | _ :: _, [], h, o, s, e => by simp at e
  | a :: os, b :: ss, h, o, s, e => by simpa [fold] using fold_app os ss (up h a b) o s (by simpa using e)
theorem root_big {e : Int} {l : List Int} {n : Nat} (hn : l.length = n) (h : ¬ n ≤ 1) : root e l = jn (root e (l.take (halfN n))) (root e (l.drop (halfN n))) := by subst hn; rw [root, dif_neg h]
theorem root_one {e x : Int} : root e [x] = x := by rw [root]; simp
theorem path_one {e : Int} {l : List Int} {i : Nat} (h : l.length ≤ 1) : path e l i = [] := by rw [path, dif_pos h]
theorem path_l {e : Int} {l : List Int} {n i : Nat} (hn : l.length = n) (h : ¬ n ≤ 1) (hi : i < halfN n) : path e l i = path e (l.take (halfN n)) i ++ [root e (l.drop (halfN n))] := by subst hn; rw [path, dif_neg h, if_pos hi]
theorem path_r {e : Int} {l : List Int} {n i : Nat} (hn : l.length = n) (h : ¬ n ≤ 1) (hi : ¬ i < halfN n) : path e l i = path e (l.drop (halfN n)) (i - halfN n) ++ [root e (l.take (halfN n))] := by subst hn; rw [path, dif_neg h, if_neg hi]
theorem sides_one {n i : Nat} (h : n ≤ 1) : sides n i = [] := by rw [sides, dif_pos h]
theorem sides_l {n i : Nat} (h : ¬ n ≤ 1) (hi : i < halfN n) : sides n i = sides (halfN n) i ++ [true] := by rw [sides, dif_neg h, if_pos hi]
theorem sides_r {n i : Nat} (h : ¬ n ≤ 1) (hi : ¬ i < halfN n) : sides n i = sides (n - halfN n) (i - halfN n) ++ [false] := by rw [sides, dif_neg h, if_neg hi]
theorem fold_path (e : Int) : ∀ (n : Nat) (l : List Int), l.length = n → ∀ i, i < n → fold (l.getD i 0) (path e l i) (sides n i) = root e l := by
  intro n
  induction n using Nat.strongRecOn with
  | ind n ih =>
    intro l hn i hi
    by_cases h1 : n ≤ 1
    · rw [path_one (by omega), sides_one h1]
      match l, hn with
      | [], hn => simp at hn; omega
      | [a], hn => simp at hn; obtain rfl : i = 0 := by omega
                   rw [root_one]; rfl
      | a :: b :: t, hn => simp at hn; omega
    · have h2 := halfN_lt (n := n) (by omega)
      have h3 := halfN_pos n
      rw [root_big hn h1]
      by_cases hk : i < halfN n
      · rw [path_l hn h1 hk, sides_l h1 hk, fold_app _ _ _ _ _ (path_len e (halfN n) _ (by simp; omega) i)]
        have := ih (halfN n) (by omega) (l.take (halfN n)) (by simp; omega) i hk
        rw [show (l.take (halfN n)).getD i 0 = l.getD i 0 by simp [List.getD, List.getElem?_take, hk]] at this
        rw [this]; rfl
      · rw [path_r hn h1 hk, sides_r h1 hk, fold_app _ _ _ _ _ (path_len e (n - halfN n) _ (by simp; omega) _)]
        have := ih (n - halfN n) (by omega) (l.drop (halfN n)) (by simp; omega) (i - halfN n) (by omega)
        rw [show (l.drop (halfN n)).getD (i - halfN n) 0 = l.getD i 0 by simp only [List.getD, List.getElem?_drop]; rw [show halfN n + (i - halfN n) = i by omega]] at this
        rw [this]; rfl
theorem fold_U : ∀ (os : List Int) (ss : List Bool) (h : Int), U h → U (fold h os ss)
  | [], _, h, hh => by simpa [fold] using hh
  | _ :: _, [], h, hh => by simpa [fold] using hh
  | a :: os, b :: ss, h, hh => fold_U os ss _ (up_U _ _ _)
theorem fold_h : ∀ (os : List Int) (ss : List Bool) (h g : Int), U h → U g → (∀ x ∈ os, U x) → (fold h os ss = fold g os ss ↔ h = g)
  | [], _, h, g, hh, hg, _ => by simp [fold]
  | _ :: _, [], h, g, hh, hg, _ => by simp [fold]
  | a :: os, b :: ss, h, g, hh, hg, hu => by
    have := fold_h os ss (up h a b) (up g a b) (up_U _ _ _) (up_U _ _ _) (fun x hx => hu x (by simp [hx]))
    simp only [fold]; rw [this]
    exact up_h b hh hg (hu a (by simp))
theorem fold_set : ∀ (os : List Int) (ss : List Bool) (h v : Int) (k : Nat), k < os.length → os.length = ss.length → U h → U v → (∀ x ∈ os, U x) → (fold h (os.set k v) ss = fold h os ss ↔ v = os.getD k 0)
  | [], _, h, v, k, hk, _, _, _, _ => by simp at hk
  | _ :: _, [], h, v, k, hk, e, _, _, _ => by simp at e
  | a :: os, b :: ss, h, v, 0, hk, e, hh, hv, hu => by
    simp only [List.set_cons_zero, fold, List.getD_cons_zero]
    rw [fold_h os ss _ _ (up_U _ _ _) (up_U _ _ _) (fun x hx => hu x (by simp [hx]))]
    exact up_o b hh hv (hu a (by simp))
  | a :: os, b :: ss, h, v, k + 1, hk, e, hh, hv, hu => by
    simp only [List.set_cons_succ, fold, List.getD_cons_succ]
    exact fold_set os ss _ v k (by simpa using hk) (by simpa using e) (up_U _ _ _) hv (fun x hx => hu x (by simp [hx]))
theorem path_set (e : Int) (v : Int) : ∀ (n : Nat) (l : List Int), l.length = n → ∀ i, path e (l.set i v) i = path e l i := by
  intro n
  induction n using Nat.strongRecOn with
  | ind n ih =>
    intro l hn i
    by_cases h1 : n ≤ 1
    · rw [path_one (by simp; omega), path_one (by omega)]
    · have h2 := halfN_lt (n := n) (by omega)
      have h3 := halfN_pos n
      by_cases hk : i < halfN n
      · rw [path_l (l := l.set i v) (by simpa using hn) h1 hk, path_l hn h1 hk, List.drop_set_of_lt hk, List.take_set, ih (halfN n) (by omega) _ (by simp; omega)]
      · rw [path_r (l := l.set i v) (by simpa using hn) h1 hk, path_r hn h1 hk, List.take_set_of_le (by omega), List.drop_set, if_neg hk, ih (n - halfN n) (by omega) _ (by simp; omega)]
theorem set_U {l : List Int} {v : Int} (hl : ∀ x ∈ l, U x) (hv : U v) (i : Nat) : ∀ x ∈ l.set i v, U x := fun x hx => by
  rcases List.mem_or_eq_of_mem_set hx with h | h
  · exact hl x h
  · rw [h]; exact hv
theorem root_set (e : Int) (v : Int) (l : List Int) (i : Nat) (hi : i < l.length) (he : U e) (hl : ∀ x ∈ l, U x) (hv : U v) : (root e l = root e (l.set i v) ↔ v = l.getD i 0) ∧ fold v (path e l i) (sides l.length i) = root e (l.set i v) := by
  have h1 := fold_path e l.length l rfl i hi
  have h2 := fold_path e l.length (l.set i v) (by simp) i hi
  rw [path_set e v _ l rfl, show (l.set i v).getD i 0 = v by simp [List.getD, hi]] at h2
  refine ⟨?_, h2⟩
  rw [← h1, ← h2, fold_h _ _ _ _ (by rw [show l.getD i 0 = l[i] by simp [List.getD, hi]]; exact hl _ (List.getElem_mem _)) hv (path_U e he _ l rfl hl i)]
  exact eq_comm
end Go.Proofs.YtchpkglnmpmcmaaQ
/- What the functions of seal compute on lists of digests: roots, paths, and which openings are accepted. -/
namespace Go.Proofs.YtchpkglnmpmcmaaQ
set_option linter.unusedVariables false
set_option linter.unusedSimpArgs false
open Go.RowKit Go.Proofs.Ytchpkglnmpmcmaa.P47 Go.Proofs.YtchpkglnmpmcmaaW.PrintWords Go.Proofs.YtchpkglnmpmcmaaW.PrintLast Go.Proofs.YtchpkglnmpmcmaaW.PrintMore
theorem evT {α : Type} {c : Prop} [Decidable c] {f g : Nat → Option α} {r : α} (h : c) (k : Ev f r) : Ev (fun n => if c then f n else g n) r := Ev.congr (fun n => if_pos h) k
theorem evF {α : Type} {c : Prop} [Decidable c] {f g : Nat → Option α} {r : α} (h : ¬ c) (k : Ev g r) : Ev (fun n => if c then f n else g n) r := Ev.congr (fun n => if_neg h) k
theorem half_f {n : Nat} (h2 : 2 ≤ n) (hn : n ≤ 65536) : seal_half.f (n : Int) = some ((halfN n : Nat) : Int) := by
  obtain ⟨m, rfl⟩ : ∃ m, n = m + 1 := ⟨n - 1, by omega⟩
  obtain ⟨hb1, hb2, hb3⟩ := Lib.bitLenAux_bounds 64 m (by omega) (by omega)
  have hl : Lib.bitLen m = m.log2 + 1 := by
    have h1 : m.log2 = Lib.bitLenAux 64 m - 1 := (Nat.log2_eq_iff (by omega)).2 ⟨hb2, by rw [Nat.sub_add_cancel hb1]; exact hb3⟩
    rw [h1, Nat.sub_add_cancel hb1]; rfl
  have h16 : m.log2 < 16 := (Nat.log2_lt (by omega)).2 (by omega)
  have hp : 2 ^ m.log2 < 2 ^ 16 := Nat.pow_lt_pow_right (by decide) h16
  unfold seal_half.f bits_Len.f
  rw [w64 (x := ((m + 1 : Nat) : Int) - 1) (by omega) (by omega), wu64 (by omega) (by omega), if_pos (by omega), if_pos (by omega)]
  simp only [Option.bind_some]
  rw [show (((m + 1 : Nat) : Int) - 1).toNat = m by omega, hl, w64 (by omega) (by omega), if_pos (by omega)]
  unfold shl
  rw [show (((m.log2 + 1 : Nat) : Int) - 1).toNat = m.log2 by omega, Nat.min_eq_left (show m.log2 ≤ IntKind.i64.bits from Nat.le_trans (Nat.le_of_lt h16) (by decide)), Int.one_mul]
  unfold halfN
  rw [IntKind.wrap_i64, show ((2 : Int) ^ m.log2) = ((2 ^ m.log2 : Nat) : Int) by simp, show m + 1 - 1 = m from rfl]
  generalize 2 ^ m.log2 = z at *
  refine congrArg some ?_
  omega
theorem join_f {a b : Int} (ha : U a) (hb : U b) : seal_Join.f a b = some (jn a b) := by
  obtain ⟨A, rfl, hA⟩ := ha.nat
  obtain ⟨B, rfl, hB⟩ := hb.nat
  unfold seal_Join.f jn
  rw [show (1785686382 : Int) = ((1785686382 : Nat) : Int) from rfl, dstep_f (by decide) hA]
  simp only [Option.bind_some, Int.toNat_natCast]
  rw [dstep_f (stepN_lt _ _) hB]; rfl
theorem take_U {l : List Int} (h : ∀ x ∈ l, U x) (k : Nat) : ∀ x ∈ l.take k, U x := fun x hx => h x (List.mem_of_mem_take hx)
theorem drop_U {l : List Int} (h : ∀ x ∈ l, U x) (k : Nat) : ∀ x ∈ l.drop k, U x := fun x hx => h x (List.mem_of_mem_drop hx)
theorem U0 : U 0 := ⟨by decide, by decide⟩
theorem root_f : ∀ (n : Nat) (l : List Int), l.length = n → 1 ≤ n → n ≤ 65536 → (∀ x ∈ l, U x) → Ev (fun k => seal_Root.f k l) (root 0 l) := by
  intro n
  induction n using Nat.strongRecOn with
  | ind n ih =>
    intro l hn h1 hm hl
    refine Ev.step (fun k => by rw [seal_Root.f]) ?_
    simp only [hn]
    refine evF (by omega) ?_
    by_cases h : n ≤ 1
    · obtain rfl : n = 1 := by omega
      match l, hn with
      | [a], _ => rw [root_one]; exact evT (by omega) (evT (by omega) (Ev.now _))
    · have h2 := halfN_lt (n := n) (by omega)
      have h3 := halfN_pos n
      refine evF (by omega) ?_
      rw [half_f (by omega) hm, root_big hn h]
      simp only [Option.bind_some, Int.toNat_natCast]
      refine evT (by omega) (evT (by omega) ?_)
      refine Ev.bind (ih (halfN n) (by omega) _ (by simp; omega) (by omega) (by omega) (take_U hl _)) ?_
      refine Ev.bind (ih (n - halfN n) (by omega) _ (by simp; omega) (by omega) (by omega) (drop_U hl _)) ?_
      rw [join_f (root_U 0 U0 _ _ rfl (take_U hl _)) (root_U 0 U0 _ _ rfl (drop_U hl _))]
      exact Ev.now _
theorem path_le (e : Int) : ∀ (n : Nat) (l : List Int), l.length = n → 1 ≤ n → ∀ i, (path e l i).length + 1 ≤ n := by
  intro n
  induction n using Nat.strongRecOn with
  | ind n ih =>
    intro l hn h1 i
    rw [path, hn]
    split
    · simp; omega
    · have h2 := halfN_lt (n := n) (by omega)
      have h3 := halfN_pos n
      split
      · have := ih (halfN n) (by omega) (l.take (halfN n)) (by simp; omega) (by omega) i
        simp; omega
      · have := ih (n - halfN n) (by omega) (l.drop (halfN n)) (by simp; omega) (by omega) (i - halfN n)
        simp; omega
theorem down_f : ∀ (n : Nat) (l : List Int) (i : Nat) (P : List Int), l.length = n → i < n → n ≤ 65536 → P.length + n ≤ 1000000 → (∀ x ∈ l, U x) → Ev (fun k => seal_Open.down k l (i : Int) P) (P ++ path 0 l i) := by
  intro n
  induction n using Nat.strongRecOn with
  | ind n ih =>
    intro l i P hn hi hm hP hl
    refine Ev.step (fun k => by rw [seal_Open.down]) ?_
    simp only [hn]
    by_cases h : n ≤ 1
    · obtain rfl : n = 1 := by omega
      rw [path_one (by omega), List.append_nil]
      exact evT rfl (Ev.now _)
    · have h2 := halfN_lt (n := n) (by omega)
      have h3 := halfN_pos n
      refine evF (by omega) ?_
      rw [half_f (by omega) hm]
      simp only [Option.bind_some, Int.toNat_natCast]
      refine evT (by omega) (evT (by omega) ?_)
      have hp1 := path_le 0 (halfN n) (l.take (halfN n)) (by simp; omega) (by omega) i
      have hp2 := path_le 0 (n - halfN n) (l.drop (halfN n)) (by simp; omega) (by omega) (i - halfN n)
      by_cases hk : i < halfN n
      · rw [path_l hn h hk]
        refine evT (by omega) ?_
        refine Ev.bind (ih (halfN n) (by omega) (l.take (halfN n)) i P (by simp; omega) hk (by omega) (by omega) (take_U hl _)) ?_
        refine Ev.bind (root_f (n - halfN n) (l.drop (halfN n)) (by simp; omega) (by omega) (by omega) (drop_U hl _)) ?_
        rw [← List.append_assoc]
        exact evT (by simp; omega) (Ev.now _)
      · rw [path_r hn h hk]
        refine evF (by omega) ?_
        rw [show (i : Int) - (halfN n : Nat) = ((i - halfN n : Nat) : Int) by omega, w64 (x := ((i - halfN n : Nat) : Int)) (by omega) (by omega)]
        refine Ev.bind (ih (n - halfN n) (by omega) (l.drop (halfN n)) (i - halfN n) P (by simp; omega) (by omega) (by omega) (by omega) (drop_U hl _)) ?_
        refine Ev.bind (root_f (halfN n) (l.take (halfN n)) (by simp; omega) (by omega) (by omega) (take_U hl _)) ?_
        rw [← List.append_assoc]
        exact evT (by simp; omega) (Ev.now _)
theorem open_f {l : List Int} {i : Nat} (hi : i < l.length) (hm : l.length ≤ 65536) (hl : ∀ x ∈ l, U x) : Ev (fun k => seal_Open.f k l (i : Int)) (path 0 l i, 0) := by
  unfold seal_Open.f
  refine evF (by omega) (evF (by omega) (Ev.bind (down_f l.length l i [] rfl hi hm (by simp; omega) hl) ?_))
  simp only [List.nil_append]
  exact Ev.now _
theorem sides_le : ∀ (n : Nat), 1 ≤ n → ∀ i, (sides n i).length + 1 ≤ n := by
  intro n
  induction n using Nat.strongRecOn with
  | ind n ih =>
    intro h1 i
    rw [sides]
    split
    · simp; omega
    · have h2 := halfN_lt (n := n) (by omega)
      have h3 := halfN_pos n
      split
      · have := ih (halfN n) (by omega) (by omega) i
        simp; omega
      · have := ih (n - halfN n) (by omega) (by omega) (i - halfN n)
        simp; omega
theorem check_l1 (r : Int) (S : List Bool) (p : List Int) (hS : S.length = p.length) (hm : p.length ≤ 1000000) (hp : ∀ x ∈ p, U x) : ∀ (m j : Nat) (h : Int), p.length - j = m → U h →
    Ev (fun k => seal_Check.l1 k r S.reverse h p (p.length : Int) (j : Int)) (if fold h (p.drop j) (S.drop j) = r then 0 else 6)
  | 0, j, h, hj, hh => by
    refine Ev.step (fun k => by rw [seal_Check.l1]) ?_
    rw [List.drop_of_length_le (by omega), List.drop_of_length_le (l := S) (by omega)]
    simp only [fold]
    refine evF (by omega) ?_
    by_cases e : h = r
    · simp [e]; exact Ev.now _
    · simp [e]; exact Ev.now _
  | m + 1, j, h, hj, hh => by
    refine Ev.step (fun k => by rw [seal_Check.l1]) ?_
    have hjp : j < p.length := by omega
    have hjS : j < S.length := by omega
    have hx := hp _ (List.getElem_mem hjp)
    refine evT (by omega) (evT (by omega) (evT (by omega) ?_))
    rw [List.length_reverse, w64 (x := ((S.length : Nat) : Int) - 1) (by omega) (by omega), w64 (x := ((S.length : Nat) : Int) - 1 - (j : Int)) (by omega) (by omega)]
    refine evT (by omega) (evT (by omega) ?_)
    have e1 : rd p (j : Int) = p[j] := by simp [rd, hjp]
    have e2 : rdOf false S.reverse (((S.length : Nat) : Int) - 1 - (j : Int)) = S[j] := by
      unfold rdOf
      rw [show (((S.length : Nat) : Int) - 1 - (j : Int)).toNat = S.length - 1 - j by omega]
      rw [List.getD_eq_getElem?_getD, List.getElem?_reverse (by omega), show S.length - 1 - (S.length - 1 - j) = j by omega]
      simp [hjS]
    rw [e1, e2, join_f hh hx, join_f hx hh, w64 (x := (j : Int) + 1) (by omega) (by omega)]
    simp only [Option.bind_some]
    have ih := check_l1 r S p hS hm hp m (j + 1) (up h p[j] S[j]) (by omega) (up_U _ _ _)
    rw [List.drop_eq_getElem_cons hjp, List.drop_eq_getElem_cons hjS]
    simp only [fold]
    rw [show ((j + 1 : Nat) : Int) = (j : Int) + 1 by omega] at ih
    cases hb : S[j]
    · rw [hb] at ih; exact evF (by decide) ih
    · rw [hb] at ih; exact evT rfl ih
theorem check_l0 (r : Int) (p : List Int) (a b v : Int) : ∀ (n : Nat) (i : Nat) (L : List Bool), i < n → n ≤ 65536 → L.length + n ≤ 1000000 →
    Ev (fun k => if ((L ++ (sides n i).reverse).length : Int) = (p.length : Int) then seal_Check.l1 k r (L ++ (sides n i).reverse) b p (p.length : Int) 0 else some 6) v →
    Ev (fun k => seal_Check.l0 k r p L (n : Int) (i : Int) a b) v := by
  intro n
  induction n using Nat.strongRecOn with
  | ind n ih =>
    intro i L hi hm hL hv
    refine Ev.step (fun k => by rw [seal_Check.l0]) ?_
    by_cases h : n ≤ 1
    · rw [sides_one h] at hv
      refine evF (by omega) ?_
      simpa using hv
    · have h2 := halfN_lt (n := n) (by omega)
      have h3 := halfN_pos n
      refine evT (by omega) ?_
      rw [half_f (by omega) hm]
      simp only [Option.bind_some]
      refine evT (by omega) ?_
      by_cases hk : i < halfN n
      · refine evT (by omega) ?_
        rw [show decide ((i : Int) < ((halfN n : Nat) : Int)) = true by simp; omega]
        rw [sides_l h hk] at hv
        refine ih (halfN n) (by omega) i (L ++ [true]) hk (by omega) (by simp; omega) ?_
        simpa [List.append_assoc] using hv
      · refine evF (by omega) ?_
        rw [show decide ((i : Int) < ((halfN n : Nat) : Int)) = false by simp; omega]
        rw [sides_r h hk] at hv
        rw [w64 (x := (n : Int) - _) (by omega) (by omega), w64 (x := (i : Int) - _) (by omega) (by omega), show (n : Int) - (halfN n : Nat) = ((n - halfN n : Nat) : Int) by omega, show (i : Int) - (halfN n : Nat) = ((i - halfN n : Nat) : Int) by omega]
        refine ih (n - halfN n) (by omega) (i - halfN n) (L ++ [false]) (by omega) (by omega) (by simp; omega) ?_
        simpa [List.append_assoc] using hv
theorem check_f {r leaf : Int} {n i : Nat} {p : List Int} (hi : i < n) (hn : n ≤ 4096) (hp : ∀ x ∈ p, U x) (hl : U leaf) :
    Ev (fun k => seal_Check.f k r (n : Int) (i : Int) leaf p) (if (sides n i).length = p.length then (if fold leaf p (sides n i) = r then 0 else 6) else 6) := by
  unfold seal_Check.f
  refine evF (by omega) (evF (by omega) ?_)
  refine Ev.step (fun k => by rw [seal_Check.j0]) ?_
  refine evF (by simp; omega) ?_
  refine check_l0 r p _ leaf _ n i [] hi (by omega) (by simp; omega) ?_
  simp only [List.nil_append, List.length_reverse]
  by_cases e : (sides n i).length = p.length
  · rw [if_pos e]
    simp only [e, if_true]
    have := sides_le n (by omega) i
    have h1 := check_l1 r (sides n i) p e (by omega) hp p.length 0 leaf rfl hl
    simpa using h1
  · rw [if_neg e]
    have e2 : ¬ (((sides n i).length : Int) = (p.length : Int)) := by omega
    simp only [e2, if_false]
    exact Ev.now _
end Go.Proofs.YtchpkglnmpmcmaaQ
