/- The square root of a number of 63 bits, by floats, has 32 bits at most. -/
import GoSem.Core.Float
namespace Go.Proofs.YtokaigninenjhaaQ
open Ieee
theorem log_le {n : Nat} (h : n ≠ 0) : 2 ^ n.log2 ≤ n ∧ n < 2 ^ (n.log2 + 1) := ⟨Nat.log2_self_le h, Nat.lt_log2_self⟩
theorem pow_add' (a b : Nat) : 2 ^ (a + b) = 2 ^ a * 2 ^ b := Nat.pow_add ..
/-- What a rung of the normal numbers stands for. -/
theorem read_rung {E k : Nat} (hE : E ≤ 2000) (h1 : 2 ^ 52 ≤ k) (h2 : k ≤ 2 ^ 53) : double.read (E * 2 ^ 52 + k) = if k < 2 ^ 53 then .number false k (-1074 + (E : Int)) else .number false (2 ^ 52) (-1074 + ((E + 1 : Nat) : Int)) := by
  have hs : double.signWeight = 9223372036854775808 := by decide
  have hb : double.binade = 4503599627370496 := by decide
  have hi : double.infRung = 9218868437227405312 := by decide
  have hl : double.leastPlace = -1074 := by decide
  have p52 : (2 : Nat) ^ 52 = 4503599627370496 := by decide
  have p53 : (2 : Nat) ^ 53 = 9007199254740992 := by decide
  rw [p52] at h1 ⊢
  rw [p53] at h2 ⊢
  unfold Format.read
  rw [hs, hb, hi, hl]
  have d0 : (E * 4503599627370496 + k) / 9223372036854775808 = 0 := by omega
  have d1 : (E * 4503599627370496 + k) % 9223372036854775808 = E * 4503599627370496 + k := by omega
  simp only [d0, d1]
  have c1 : ¬ (E * 4503599627370496 + k < 4503599627370496) := by omega
  have c2 : E * 4503599627370496 + k < 9218868437227405312 := by omega
  have c0 : ((0 : Nat) % 2 == 1) = false := rfl
  rw [if_neg c1, if_pos c2, c0]
  by_cases hk : k < 9007199254740992
  · have e1 : 4503599627370496 + (E * 4503599627370496 + k) % 4503599627370496 = k := by omega
    have e2 : (E * 4503599627370496 + k) / 4503599627370496 - 1 = E := by omega
    rw [if_pos hk, e1, e2]
  · have e1 : 4503599627370496 + (E * 4503599627370496 + k) % 4503599627370496 = 4503599627370496 := by omega
    have e2 : (E * 4503599627370496 + k) / 4503599627370496 - 1 = E + 1 := by omega
    rw [if_neg hk, e1, e2]
/-- Cutting digits off, rounded to the nearest. -/
theorem cut_even {n drop : Nat} (hd : drop ≤ n.log2 + 2) : n / 2 ^ drop ≤ Toward.even.cut false n drop ∧ Toward.even.cut false n drop ≤ n / 2 ^ drop + 1 := by
  unfold Toward.cut
  rw [Nat.min_eq_left hd, Nat.shiftLeft_eq, Nat.one_mul]
  simp only []
  generalize (decide (2 ^ drop < 2 * (n % 2 ^ drop)) || 2 ^ drop == 2 * (n % 2 ^ drop) && n / 2 ^ drop % 2 == 1) = b
  cases b <;> simp
theorem cut_zero (n drop : Nat) : Toward.zero.cut false n drop ≤ n / 2 ^ drop := by
  unfold Toward.cut
  simp only [Bool.toNat_false, Nat.add_zero]
  rw [Nat.shiftLeft_eq, Nat.one_mul]
  by_cases hd : drop ≤ n.log2 + 2
  · rw [Nat.min_eq_left hd]; exact Nat.le_refl _
  · rw [Nat.min_eq_right (by omega)]
    have : n / 2 ^ (n.log2 + 2) = 0 := Nat.div_eq_of_lt (by
      have := @Nat.lt_log2_self n
      have h2 : 2 ^ (n.log2 + 1) ≤ 2 ^ (n.log2 + 2) := Nat.pow_le_pow_right (by decide) (by omega)
      omega)
    rw [this]; exact Nat.zero_le _
/-- The nearest word of a normal number. -/
theorem near_rung {mag : Nat} (hm : mag ≠ 0) {place : Int} {E : Nat} (hE : (E : Int) = place + mag.log2 - 52 + 1074) (hE2 : E ≤ 2000) :
    ∃ k, double.nearest false mag place = E * 2 ^ 52 + k ∧ 2 ^ 52 ≤ k ∧ k ≤ 2 ^ 53 ∧ (52 ≤ mag.log2 → k ≤ mag / 2 ^ (mag.log2 - 52) + 1) ∧ (mag.log2 ≤ 52 → k = mag * 2 ^ (52 - mag.log2)) := by
  obtain ⟨B, hB⟩ : ∃ B, (2 : Nat) ^ 52 = B := ⟨_, rfl⟩
  have hB3 : (2 : Nat) ^ 53 = 2 * B := by rw [← hB]
  have hl : double.leastPlace = -1074 := by decide
  have hf : double.fractionBits = 52 := rfl
  have hb : double.binade = 2 ^ 52 := rfl
  have hi : double.infRung = 2047 * 2 ^ 52 := rfl
  obtain ⟨l1, l2⟩ := log_le hm
  unfold Format.nearest
  rw [if_neg hm, hl, hf, hb, hi]
  have hmax : max (place + (mag.log2 : Int) - ((52 : Nat) : Int)) (-1074) = place + (mag.log2 : Int) - 52 := by omega
  simp only [hmax]
  have e1 : (place + (mag.log2 : Int) - 52 - -1074).toNat = E := by omega
  rw [e1]
  unfold Format.word
  simp only [Bool.false_eq_true, if_false]
  by_cases h : mag.log2 ≤ 52
  · have e2 : (place - (place + (mag.log2 : Int) - 52)).toNat = 52 - mag.log2 := by omega
    have e3 : (place + (mag.log2 : Int) - 52 - place).toNat = 0 := by omega
    rw [e2, e3, Nat.shiftLeft_eq]
    have hc := cut_even (n := mag * 2 ^ (52 - mag.log2)) (drop := 0) (Nat.zero_le _)
    have hz : Toward.even.cut false (mag * 2 ^ (52 - mag.log2)) 0 = mag * 2 ^ (52 - mag.log2) := by
      unfold Toward.cut
      simp [Nat.mod_one]
    rw [hz]
    have u1 : 2 ^ 52 ≤ mag * 2 ^ (52 - mag.log2) := by
      have : 2 ^ mag.log2 * 2 ^ (52 - mag.log2) = 2 ^ 52 := by rw [← pow_add']; congr 1; omega
      rw [← this]; exact Nat.mul_le_mul_right _ l1
    have u2 : mag * 2 ^ (52 - mag.log2) < 2 ^ 53 := by
      have : 2 ^ (mag.log2 + 1) * 2 ^ (52 - mag.log2) = 2 ^ 53 := by rw [← pow_add']; congr 1; omega
      rw [← this]; exact Nat.mul_lt_mul_of_pos_right l2 (Nat.two_pow_pos _)
    refine ⟨mag * 2 ^ (52 - mag.log2), Nat.min_eq_left ?_, u1, Nat.le_of_lt u2, fun h52 => ?_, fun _ => rfl⟩
    · rw [hB3] at u2
      rw [hB]
      have h3 : E * B ≤ 2000 * B := Nat.mul_le_mul_right _ hE2
      omega
    · have : mag.log2 - 52 = 0 := by omega
      rw [this, show 52 - mag.log2 = 0 by omega]; simp
  · have e2 : (place - (place + (mag.log2 : Int) - 52)).toNat = 0 := by omega
    have e3 : (place + (mag.log2 : Int) - 52 - place).toNat = mag.log2 - 52 := by omega
    rw [e2, e3, Nat.shiftLeft_zero]
    have hc := cut_even (n := mag) (drop := mag.log2 - 52) (by omega)
    have hp : 2 ^ (mag.log2 - 52) * 2 ^ 52 = 2 ^ mag.log2 := by rw [← pow_add']; congr 1; omega
    have hp2 : 2 ^ (mag.log2 - 52) * 2 ^ 53 = 2 ^ (mag.log2 + 1) := by rw [← pow_add']; congr 1; omega
    have u1 : 2 ^ 52 ≤ mag / 2 ^ (mag.log2 - 52) := by
      rw [Nat.le_div_iff_mul_le (Nat.two_pow_pos _), Nat.mul_comm, hp]; exact l1
    have u2 : mag / 2 ^ (mag.log2 - 52) < 2 ^ 53 := by
      rw [Nat.div_lt_iff_lt_mul (Nat.two_pow_pos _), Nat.mul_comm, hp2]; exact l2
    refine ⟨_, Nat.min_eq_left ?_, Nat.le_trans u1 hc.1, Nat.le_trans hc.2 u2, fun _ => hc.2, fun q => absurd q h⟩
    rw [hB3] at u2
    rw [hB]
    have h3 : E * B ≤ 2000 * B := Nat.mul_le_mul_right _ hE2
    have hc2 := hc.2
    omega
theorem rootFrom_sq (n : Nat) : ∀ (todo root : Nat), root * root ≤ n → Datum.rootFrom n todo root * Datum.rootFrom n todo root ≤ n
  | 0, root, h => h
  | todo + 1, root, h => by
    unfold Datum.rootFrom
    apply rootFrom_sq
    split
    · assumption
    · exact h
/-- Truncating a word that is not too great. -/
theorem toInt_small {mag : Nat} (hm : mag ≠ 0) {place : Int} (hp : place ≤ -24) (hp2 : -200 ≤ place) (h : (mag ≤ 3 * 2 ^ 54 ∧ place = -24) ∨ (mag ≤ 2 ^ 56 ∧ place ≤ -25)) :
    ∃ N : Nat, (double.read (double.nearest false mag place)).toInt .zero = some (N : Int) ∧ N < 4294967296 := by
  obtain ⟨l1, l2⟩ := log_le hm
  obtain ⟨l, hl⟩ : ∃ l, mag.log2 = l := ⟨_, rfl⟩
  have hl56 : mag ≤ 2 ^ 56 := by
    rcases h with h | h
    · exact Nat.le_trans h.1 (by decide)
    · exact h.1
  have hl2 : l ≤ 56 := by
    by_cases q : l ≤ 56
    · exact q
    · exfalso
      have h1 : 2 ^ 57 ≤ 2 ^ mag.log2 := Nat.pow_le_pow_right (by decide) (by omega)
      have h2 : (2 : Nat) ^ 57 = 2 * 2 ^ 56 := by decide
      generalize (2 : Nat) ^ 56 = B at *
      omega
  obtain ⟨k, hk, k1, k2, k3, k4⟩ := near_rung hm (place := place) (E := (place + mag.log2 - 52 + 1074).toNat) (by omega) (by omega)
  rw [hl] at hk k3 k4
  obtain ⟨D, hD⟩ : ∃ D : Nat, (D : Int) = -(place + (l : Int) - 52) := ⟨(-(place + (l : Int) - 52)).toNat, by omega⟩
  -- the number is not too great
  have big : mag + 2 ^ 4 < 4294967296 * 2 ^ (-place).toNat := by
    rcases h with ⟨q1, q2⟩ | ⟨q1, q2⟩
    · rw [q2, show (-(-24 : Int)).toNat = 24 from rfl]
      have h1 : (3 : Nat) * 2 ^ 54 + 2 ^ 4 < 4294967296 * 2 ^ 24 := by decide
      exact Nat.lt_of_le_of_lt (Nat.add_le_add_right q1 _) h1
    · have h25 : (2 : Nat) ^ 25 ≤ 2 ^ (-place).toNat := Nat.pow_le_pow_right (by decide) (by omega)
      have h1 : (2 : Nat) ^ 56 + 2 ^ 4 < 4294967296 * 2 ^ 25 := by decide
      exact Nat.lt_of_le_of_lt (Nat.add_le_add_right q1 _) (Nat.lt_of_lt_of_le h1 (Nat.mul_le_mul_left _ h25))
  have key : k < 4294967296 * 2 ^ D := by
    by_cases q : 52 ≤ l
    · have h3 := k3 q
      apply Nat.lt_of_mul_lt_mul_right (a := 2 ^ (l - 52))
      have e : 4294967296 * 2 ^ D * 2 ^ (l - 52) = 4294967296 * 2 ^ (-place).toNat := by
        rw [Nat.mul_assoc, ← pow_add']
        congr 2
        omega
      rw [e]
      have h4 := Nat.mul_le_mul_right (2 ^ (l - 52)) h3
      rw [Nat.add_mul, Nat.one_mul] at h4
      have h5 := Nat.div_mul_le_self mag (2 ^ (l - 52))
      have h6 : 2 ^ (l - 52) ≤ 2 ^ 4 := Nat.pow_le_pow_right (by decide) (by omega)
      exact Nat.lt_of_le_of_lt (Nat.le_trans h4 (Nat.add_le_add h5 h6)) big
    · rw [k4 (by omega)]
      have e : 4294967296 * 2 ^ D = 4294967296 * 2 ^ (-place).toNat * 2 ^ (52 - l) := by
        rw [Nat.mul_assoc, ← pow_add']
        congr 2
        omega
      rw [e]
      exact Nat.mul_lt_mul_of_pos_right (Nat.lt_of_le_of_lt (Nat.le_add_right _ _) big) (Nat.two_pow_pos _)
  have fin : ∀ (m d : Nat) (p : Int), p = -(d : Int) → 0 < d → m < 4294967296 * 2 ^ d → ∃ N : Nat, (Datum.number false m p).toInt .zero = some (N : Int) ∧ N < 4294967296 := fun m d p hp' hd0 h1 => by
    refine ⟨Toward.zero.cut false m d, ?_, Nat.lt_of_le_of_lt (cut_zero m d) ((Nat.div_lt_iff_lt_mul (Nat.two_pow_pos _)).2 h1)⟩
    have z1 : p.toNat = 0 := by omega
    have z2 : (-p).toNat = d := by omega
    have e : (Datum.number false m p).toInt .zero = some (((Toward.zero.cut false (m <<< p.toNat) (-p).toNat) <<< 0 : Nat) : Int) := rfl
    rw [e, z1, z2, Nat.shiftLeft_zero, Nat.shiftLeft_zero]
  rw [hk, read_rung (by omega) k1 k2]
  split
  · exact fin k D _ (by omega) (by omega) key
  · rename_i hk53
    have hk53 : k = 2 ^ 53 := Nat.le_antisymm k2 (Nat.le_of_not_lt hk53)
    obtain ⟨d, rfl⟩ : ∃ d, D = d + 1 := ⟨D - 1, by omega⟩
    refine fin (2 ^ 52) d _ (by omega) (by omega) ?_
    rw [hk53, Nat.pow_succ 2 d, Nat.pow_succ 2 52, ← Nat.mul_assoc] at key
    exact Nat.lt_of_mul_lt_mul_right key
/-- The root of a normal number. -/
theorem root_small {m : Nat} {i : Int} (h1 : 2 ^ 52 ≤ m) (h2 : m < 2 ^ 53) (hi : i ≤ 10 ∨ (i = 11 ∧ m = 2 ^ 52)) (hi2 : -60 ≤ i) :
    ∃ mag place, (Datum.number false m i).root 54 = some (.number false mag place) ∧ mag ≠ 0 ∧ place ≤ -24 ∧ -200 ≤ place ∧ ((mag ≤ 3 * 2 ^ 54 ∧ place = -24) ∨ (mag ≤ 2 ^ 56 ∧ place ≤ -25)) := by
  have hm0 : m ≠ 0 := fun q => by rw [q] at h1; exact absurd h1 (by decide)
  have hlog : m.log2 = 52 := (Nat.log2_eq_iff hm0).2 ⟨h1, h2⟩
  obtain ⟨b, hb, hb2⟩ : ∃ b : Nat, ((i - ((56 : Nat) : Int)) % 2).toNat = b ∧ (b = 0 ∨ b = 1) := ⟨_, rfl, by omega⟩
  obtain ⟨n, hn⟩ : ∃ n, m <<< (56 + b) = n := ⟨_, rfl⟩
  obtain ⟨W, hW⟩ : ∃ W, Datum.rootFrom n (n.log2 / 2 + 1) 0 = W := ⟨_, rfl⟩
  have er : (Datum.number false m i).root 54 = some (.number false (2 * W + (W * W != n).toNat) ((i - ((56 + b : Nat) : Int)) / 2 - 1)) := by
    have e : (Datum.number false m i).root 54 = if m = 0 then some (Datum.number false m i) else some (Datum.number false (2 * Datum.rootFrom (m <<< (2 * 54 - m.log2 + ((i - ((2 * 54 - m.log2 : Nat) : Int)) % 2).toNat)) ((m <<< (2 * 54 - m.log2 + ((i - ((2 * 54 - m.log2 : Nat) : Int)) % 2).toNat)).log2 / 2 + 1) 0 + (Datum.rootFrom (m <<< (2 * 54 - m.log2 + ((i - ((2 * 54 - m.log2 : Nat) : Int)) % 2).toNat)) ((m <<< (2 * 54 - m.log2 + ((i - ((2 * 54 - m.log2 : Nat) : Int)) % 2).toNat)).log2 / 2 + 1) 0 * Datum.rootFrom (m <<< (2 * 54 - m.log2 + ((i - ((2 * 54 - m.log2 : Nat) : Int)) % 2).toNat)) ((m <<< (2 * 54 - m.log2 + ((i - ((2 * 54 - m.log2 : Nat) : Int)) % 2).toNat)).log2 / 2 + 1) 0 != m <<< (2 * 54 - m.log2 + ((i - ((2 * 54 - m.log2 : Nat) : Int)) % 2).toNat)).toNat) ((i - ((2 * 54 - m.log2 + ((i - ((2 * 54 - m.log2 : Nat) : Int)) % 2).toNat : Nat) : Int)) / 2 - 1)) := rfl
    rw [e, if_neg hm0, hlog, show 2 * 54 - 52 = 56 from rfl, hb, hn, hW]
  refine ⟨_, _, er, ?_⟩
  have hsq : W * W ≤ n := by rw [← hW]; exact rootFrom_sq n _ 0 (Nat.zero_le _)
  rw [Nat.shiftLeft_eq] at hn
  have hd : (W * W != n).toNat ≤ 1 := by cases (W * W != n) <;> decide
  have lt_of_sq : ∀ x y : Nat, x * x < y * y → x < y := fun x y h => by
    rcases Nat.lt_or_ge x y with q | q
    · exact q
    · exact absurd (Nat.mul_le_mul q q) (Nat.not_le.2 h)
  have n0 : n ≠ 0 := fun q => by
    rw [q] at hn
    rcases Nat.mul_eq_zero.1 hn with z | z
    · exact hm0 z
    · exact absurd z (Nat.ne_of_gt (Nat.two_pow_pos _))
  have hmag : 2 * W + (W * W != n).toNat ≠ 0 := fun q => by
    have hW0 : W = 0 := by omega
    rw [hW0] at q
    have : (0 * 0 != n) = true := by simp; exact fun z => n0 z.symm
    rw [this] at q
    exact absurd q (by decide)
  have small : n < 2 ^ 109 + 1 → 2 * W + (W * W != n).toNat ≤ 3 * 2 ^ 54 := fun hn2 => by
    have hlt : W < 3 * 2 ^ 53 := lt_of_sq _ _ (Nat.lt_of_le_of_lt hsq (Nat.lt_of_lt_of_le hn2 (by decide)))
    have e : (3 : Nat) * 2 ^ 54 = 2 * (3 * 2 ^ 53) := by decide
    rw [e]
    generalize 3 * 2 ^ 53 = B at hlt ⊢
    omega
  by_cases h9 : i ≤ 9
  · refine ⟨hmag, by omega, by omega, .inr ⟨?_, by omega⟩⟩
    have hn2 : n < 2 ^ 55 * 2 ^ 55 := by
      rw [← hn]
      calc m * 2 ^ (56 + b) < 2 ^ 53 * 2 ^ (56 + b) := Nat.mul_lt_mul_of_pos_right h2 (Nat.two_pow_pos _)
        _ ≤ 2 ^ 53 * 2 ^ 57 := Nat.mul_le_mul_left _ (Nat.pow_le_pow_right (by decide) (by omega))
        _ = 2 ^ 55 * 2 ^ 55 := by decide
    have hlt : W < 2 ^ 55 := lt_of_sq _ _ (Nat.lt_of_le_of_lt hsq hn2)
    have e : (2 : Nat) ^ 56 = 2 * 2 ^ 55 := by decide
    rw [e]
    generalize (2 : Nat) ^ 55 = B at hlt ⊢
    omega
  · rcases hi with hi | ⟨hi, hm⟩
    · have hi10 : i = 10 := by omega
      have hb0 : b = 0 := by rw [← hb, hi10]; rfl
      refine ⟨hmag, by omega, by omega, .inl ⟨small ?_, by omega⟩⟩
      rw [← hn, hb0]
      have : m * 2 ^ (56 + 0) < 2 ^ 53 * 2 ^ 56 := Nat.mul_lt_mul_of_pos_right h2 (Nat.two_pow_pos _)
      exact Nat.lt_of_lt_of_le this (by decide)
    · have hb0 : b = 1 := by rw [← hb, hi]; rfl
      refine ⟨hmag, by omega, by omega, .inl ⟨small ?_, by omega⟩⟩
      rw [← hn, hb0, hm]
      decide
/-- The truncated root of a number of 63 bits, by floats. -/
theorem sqrt_small (n : Nat) (hn : n < 2 ^ 63) : ∃ (b : Nat) (N : Nat), double.sqrt (double.nearest false n 0) = some b ∧ (double.read b).toInt .zero = some (N : Int) ∧ N < 4294967296 := by
  by_cases h0 : n = 0
  · subst h0
    exact ⟨0, 0, rfl, rfl, by decide⟩
  · obtain ⟨l1, l2⟩ := log_le h0
    have hl : n.log2 ≤ 62 := by
      by_cases q : n.log2 ≤ 62
      · exact q
      · exfalso
        have : 2 ^ 63 ≤ 2 ^ n.log2 := Nat.pow_le_pow_right (by decide) (by omega)
        exact absurd (Nat.le_trans this l1) (Nat.not_le.2 hn)
    obtain ⟨k, hk, k1, k2, _, _⟩ := near_rung h0 (place := 0) (E := n.log2 + 1022) (by omega) (by omega)
    have fin : ∀ (m : Nat) (i : Int), double.read (double.nearest false n 0) = .number false m i → 2 ^ 52 ≤ m → m < 2 ^ 53 → (i ≤ 10 ∨ (i = 11 ∧ m = 2 ^ 52)) → -60 ≤ i → ∃ (b : Nat) (N : Nat), double.sqrt (double.nearest false n 0) = some b ∧ (double.read b).toInt .zero = some (N : Int) ∧ N < 4294967296 := fun m i hr m1 m2 hi hi2 => by
      obtain ⟨mag, place, e, q1, q2, q3, q4⟩ := root_small m1 m2 hi hi2
      obtain ⟨N, hN, hN2⟩ := toInt_small q1 q2 q3 q4
      refine ⟨double.nearest false mag place, N, ?_, hN, hN2⟩
      unfold Format.sqrt
      rw [hr, show double.fractionBits + 2 = 54 from rfl, e]
      rfl
    have hr := read_rung (E := n.log2 + 1022) (by omega) k1 k2
    rw [← hk] at hr
    split at hr
    · rename_i hlt
      exact fin _ _ hr k1 hlt (by omega) (by omega)
    · exact fin _ _ hr (Nat.le_refl _) (by decide) (by omega) (by omega)
end Go.Proofs.YtokaigninenjhaaQ
