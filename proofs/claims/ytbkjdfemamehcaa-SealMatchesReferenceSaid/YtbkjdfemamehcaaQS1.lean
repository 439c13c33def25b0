/- Digests of lists that differ in one number, or one byte. -/
import Derived.Test.YtbkjdfemamehcaaQP
namespace Go.Proofs.YtbkjdfemamehcaaQ
set_option linter.unusedVariables false
set_option linter.unusedSimpArgs false
open Go Go.RowKit Go.Proofs.Ytbkjdfemamehcaa.P03 Go.Proofs.Ytbkjdfemamehcaa.V03 Go.Proofs.YtbkjdfemamehcaaW.PrintWords Go.Proofs.YtbkjdfemamehcaaW.PrintLast Go.Proofs.YtbkjdfemamehcaaW.PrintMore
theorem fold_inj : ∀ (ws : List Int) (a b : Int), U a → U b → (∀ x ∈ ws, U x) → (ws.foldl seal_stepv a = ws.foldl seal_stepv b ↔ a = b)
  | [], a, b, _, _, _ => Iff.rfl
  | w :: ws, a, b, ha, hb, h => by
    have hw := h w (List.mem_cons_self ..)
    rw [List.foldl_cons, List.foldl_cons, fold_inj ws _ _ (stepv_U ha hw) (stepv_U hb hw) fun x hx => h x (List.mem_cons_of_mem _ hx)]
    exact stepv_left hw ha hb
theorem fold_set1 : ∀ (ws : List Int) (j : Nat) (v d : Int), j < ws.length → U d → (∀ x ∈ ws, U x) → U v → ((ws.set j v).foldl seal_stepv d = ws.foldl seal_stepv d ↔ v = ws.getD j 0)
  | [], j, v, d, hj, _, _, _ => absurd hj (by simp)
  | w :: ws, 0, v, d, hj, hd, h, hv => by
    have hw := h w (List.mem_cons_self ..)
    show (ws.foldl seal_stepv (seal_stepv d v) = ws.foldl seal_stepv (seal_stepv d w)) ↔ v = w
    rw [fold_inj ws _ _ (stepv_U hd hv) (stepv_U hd hw) fun x hx => h x (List.mem_cons_of_mem _ hx)]
    exact stepv_right hd hv hw
  | w :: ws, j + 1, v, d, hj, hd, h, hv => by
    have hw := h w (List.mem_cons_self ..)
    exact fold_set1 ws j v (seal_stepv d w) (by simpa using hj) (stepv_U hd hw) (fun x hx => h x (List.mem_cons_of_mem _ hx)) hv
theorem map_U (l : List Int) : ∀ y ∈ l.map (IntKind.u64.wrap ·), U y := fun y hy => by
  obtain ⟨z, _, rfl⟩ := List.mem_map.1 hy
  exact wrap_U z
theorem wd_set {l : List Int} {i : Nat} (hi : i < l.length) {x : Int} (hx : S x) (hl : ∀ y ∈ l, S y) : wd (l.set i x) = wd l ↔ x = l.getD i 0 := by
  have hg : S (l.getD i 0) := by rw [List.getD_eq_getElem?_getD, List.getElem?_eq_getElem hi]; exact hl _ (List.getElem_mem hi)
  have e : (l.set i x).map (IntKind.u64.wrap ·) = (l.map (IntKind.u64.wrap ·)).set i (IntKind.u64.wrap x) := List.map_set
  have eg : (l.map (IntKind.u64.wrap ·)).getD i 0 = IntKind.u64.wrap (l.getD i 0) := by
    rw [List.getD_eq_getElem?_getD, List.getD_eq_getElem?_getD, List.getElem?_map, List.getElem?_eq_getElem hi]; rfl
  unfold wd
  rw [List.length_set, stepv_left (wrap_U _) (fold_stepv_U _ _ U_start (map_U _)) (fold_stepv_U _ _ U_start (map_U _)), e, fold_set1 _ i _ _ (by simpa using hi) U_start (map_U _) (wrap_U _), eg, S_inj hx hg]
/-! ### bytes -/
def B8 (x : Int) : Prop := 0 ≤ x ∧ x < 256
def pN (g : List Int) : Nat → Nat
  | 0 => 0
  | k + 1 => pN g k + (g.getD k 0).toNat * 256 ^ k
theorem getD_B8 {g : List Int} (h : ∀ x ∈ g, B8 x) (k : Nat) : B8 (g.getD k 0) := by
  rw [List.getD_eq_getElem?_getD]
  by_cases hk : k < g.length
  · rw [List.getElem?_eq_getElem hk]; exact h _ (List.getElem_mem hk)
  · rw [List.getElem?_eq_none (by omega)]; exact ⟨by decide, by decide⟩
theorem pN_lt {g : List Int} (h : ∀ x ∈ g, B8 x) : ∀ k, pN g k < 256 ^ k
  | 0 => by show 0 < 256 ^ 0; decide
  | k + 1 => by
    have h1 := pN_lt h k
    have h2 := getD_B8 h k
    have h3 : (g.getD k 0).toNat ≤ 255 := by have := h2.2; have := h2.1; omega
    show pN g k + (g.getD k 0).toNat * 256 ^ k < 256 ^ (k + 1)
    have h4 : (g.getD k 0).toNat * 256 ^ k ≤ 255 * 256 ^ k := Nat.mul_le_mul_right _ h3
    rw [Nat.pow_succ]
    generalize 256 ^ k = P at *
    omega
theorem or_add {a b k : Nat} (ha : a < 2 ^ k) : a ||| (b * 2 ^ k) = a + b * 2 ^ k := by
  rw [Nat.or_comm, ← Nat.shiftLeft_eq, ← Nat.shiftLeft_add_eq_or_of_lt ha, Nat.add_comm]
theorem or64 {a b : Nat} (ha : a < 2 ^ 64) (hb : b < 2 ^ 64) : Go.bits .or .u64 (a : Int) (b : Int) = ((a ||| b : Nat) : Int) := by
  unfold Go.bits
  have ha' : a % 2 ^ 64 = a := Nat.mod_eq_of_lt ha
  have hb' : b % 2 ^ 64 = b := Nat.mod_eq_of_lt hb
  show IntKind.u64.wrap ((BitVec.ofInt IntKind.u64.bits (a : Int) ||| BitVec.ofInt IntKind.u64.bits (b : Int)).toNat : Int) = _
  rw [show IntKind.u64.bits = 64 from rfl, BitVec.ofInt_natCast, BitVec.ofInt_natCast, BitVec.toNat_or, BitVec.toNat_ofNat, BitVec.toNat_ofNat, ha', hb']
  have := Nat.or_lt_two_pow ha hb
  rw [show ∀ x : Int, IntKind.u64.wrap x = x % 18446744073709551616 from fun _ => rfl]
  omega
theorem part_eq {g : List Int} (h : ∀ x ∈ g, B8 x) : ∀ k, k ≤ 8 → seal_Bytes.part g k = (pN g k : Int)
  | 0, _ => rfl
  | k + 1, hk => by
    have ih := part_eq h k (by omega)
    have h1 := pN_lt h k
    have h2 := pN_lt h (k + 1)
    have h3 := getD_B8 h k
    have h4 : 256 ^ (k + 1) ≤ 256 ^ 8 := Nat.pow_le_pow_right (by decide) (by omega)
    have h5 : (256 : Nat) ^ 8 = 18446744073709551616 := by decide
    have e256 : 2 ^ (8 * k) = 256 ^ k := by rw [Nat.pow_mul]
    obtain ⟨b, hb⟩ := Int.eq_ofNat_of_zero_le h3.1
    have hb2 : (g.getD k 0).toNat = b := by rw [hb]; rfl
    have hb3 := h3.2
    rw [hb] at hb3
    show seal_Bytes.stp (seal_Bytes.part g k) k (g.getD k 0) = ((pN g k + (g.getD k 0).toNat * 256 ^ k : Nat) : Int)
    have h2' : pN g k + b * 256 ^ k < 256 ^ (k + 1) := by rw [← hb2]; exact h2
    rw [ih, hb2, hb]
    unfold seal_Bytes.stp
    have w1 : IntKind.u64.wrap (b : Int) = (b : Int) := by rw [show IntKind.u64.wrap (b : Int) = (b : Int) % 18446744073709551616 from rfl]; omega
    have w2 : IntKind.u64.wrap ((b : Int) * 2 ^ (8 * k)) = ((b * 256 ^ k : Nat) : Int) := by
      rw [show ((2 : Int) ^ (8 * k)) = ((2 ^ (8 * k) : Nat) : Int) by simp, e256, show (b : Int) * ((256 ^ k : Nat) : Int) = ((b * 256 ^ k : Nat) : Int) by simp]
      rw [show ∀ x : Int, IntKind.u64.wrap x = x % 18446744073709551616 from fun _ => rfl]
      omega
    rw [w1, w2, or64 (by omega) (by omega), ← e256, or_add (by rw [e256]; exact h1)]
theorem pN_set {g : List Int} (h : ∀ x ∈ g, B8 x) {t : Nat} (ht : t < g.length) {v : Int} (hv : B8 v) : ∀ k, t < k → (pN (g.set t v) k = pN g k ↔ v = g.getD t 0) := by
  have same : ∀ k, k ≤ t → pN (g.set t v) k = pN g k := by
    intro k
    induction k with
    | zero => intro _; rfl
    | succ k ih =>
      intro hk
      show pN (g.set t v) k + ((g.set t v).getD k 0).toNat * 256 ^ k = pN g k + (g.getD k 0).toNat * 256 ^ k
      rw [ih (by omega), List.getD_eq_getElem?_getD, List.getElem?_set_ne (by omega), ← List.getD_eq_getElem?_getD]
  intro k
  induction k with
  | zero => intro h; omega
  | succ k ih =>
    intro hk
    show pN (g.set t v) k + ((g.set t v).getD k 0).toNat * 256 ^ k = pN g k + (g.getD k 0).toNat * 256 ^ k ↔ _
    by_cases e : t = k
    · subst e
      rw [same t (Nat.le_refl _)]
      have e1 : (g.set t v).getD t 0 = v := by rw [List.getD_eq_getElem?_getD, List.getElem?_set_self ht]; rfl
      have hg := getD_B8 h t
      rw [e1]
      have hp : 0 < 256 ^ t := Nat.pow_pos (by decide)
      have hv1 := hv.1
      have hg1 := hg.1
      constructor
      · intro q
        have q2 : v.toNat * 256 ^ t = (g.getD t 0).toNat * 256 ^ t := by omega
        have := Nat.eq_of_mul_eq_mul_right hp q2
        omega
      · intro q; rw [q]
    · rw [← ih (by omega), List.getD_eq_getElem?_getD, List.getElem?_set_ne e, ← List.getD_eq_getElem?_getD]
      constructor
      · intro q; omega
      · intro q; rw [q]
theorem wrd_U {xs : List Int} (h : ∀ x ∈ xs, B8 x) (j : Nat) : U (seal_Bytes.wrd xs j) := by
  unfold seal_Bytes.wrd
  have hd : ∀ x ∈ xs.drop (8 * j), B8 x := fun x hx => h x (List.mem_of_mem_drop hx)
  rw [part_eq hd _ (Nat.min_le_left _ _)]
  have h1 := pN_lt hd (min 8 (xs.length - 8 * j))
  have h4 : 256 ^ (min 8 (xs.length - 8 * j)) ≤ 256 ^ 8 := Nat.pow_le_pow_right (by decide) (Nat.min_le_left _ _)
  have h5 : (256 : Nat) ^ 8 = 18446744073709551616 := by decide
  exact ⟨by omega, by omega⟩
theorem wrd_other {xs : List Int} {i : Nat} {v : Int} {j : Nat} (hj : j ≠ i / 8) : seal_Bytes.wrd (xs.set i v) j = seal_Bytes.wrd xs j := by
  unfold seal_Bytes.wrd
  rw [List.length_set]
  have : ∀ k, k ≤ 8 → seal_Bytes.part ((xs.set i v).drop (8 * j)) k = seal_Bytes.part (xs.drop (8 * j)) k := by
    intro k
    induction k with
    | zero => intro _; rfl
    | succ k ih =>
      intro hk
      show seal_Bytes.stp _ k _ = seal_Bytes.stp _ k _
      rw [ih (by omega), List.getD_eq_getElem?_getD, List.getD_eq_getElem?_getD, List.getElem?_drop, List.getElem?_drop, List.getElem?_set_ne (by omega)]
  exact this _ (Nat.min_le_left _ _)
theorem wrd_same {xs : List Int} (h : ∀ x ∈ xs, B8 x) {i : Nat} (hi : i < xs.length) {v : Int} (hv : B8 v) : seal_Bytes.wrd (xs.set i v) (i / 8) = seal_Bytes.wrd xs (i / 8) ↔ v = xs.getD i 0 := by
  have hd : ∀ x ∈ xs.drop (8 * (i / 8)), B8 x := fun x hx => h x (List.mem_of_mem_drop hx)
  have e : (xs.set i v).drop (8 * (i / 8)) = (xs.drop (8 * (i / 8))).set (i - 8 * (i / 8)) v := by
    apply List.ext_getElem?
    intro t
    rw [List.getElem?_drop, List.getElem?_set, List.getElem?_set, List.getElem?_drop, List.length_drop]
    by_cases q : i = 8 * (i / 8) + t
    · rw [if_pos q, if_pos hi, if_pos (show i - 8 * (i / 8) = t by omega), if_pos (show i - 8 * (i / 8) < xs.length - 8 * (i / 8) by omega)]
    · rw [if_neg q, if_neg (show ¬ i - 8 * (i / 8) = t by omega)]
  have hd2 : ∀ x ∈ (xs.drop (8 * (i / 8))).set (i - 8 * (i / 8)) v, B8 x := fun x hx => by
    rcases List.mem_or_eq_of_mem_set hx with q | q
    · exact hd x q
    · rw [q]; exact hv
  unfold seal_Bytes.wrd
  rw [List.length_set, e, part_eq hd2 _ (Nat.min_le_left _ _), part_eq hd _ (Nat.min_le_left _ _)]
  have key := pN_set hd (t := i - 8 * (i / 8)) (by rw [List.length_drop]; omega) hv (min 8 (xs.length - 8 * (i / 8))) (by omega)
  have eg : (xs.drop (8 * (i / 8))).getD (i - 8 * (i / 8)) 0 = xs.getD i 0 := by
    rw [List.getD_eq_getElem?_getD, List.getD_eq_getElem?_getD, List.getElem?_drop, show 8 * (i / 8) + (i - 8 * (i / 8)) = i by omega]
  rw [eg] at key
  rw [← key]
  constructor
  · intro q; omega
  · intro q; rw [q]
theorem bytes_set {xs : List Int} (h : ∀ x ∈ xs, B8 x) (hl : xs.length ≤ 4611686018427387904) {i : Nat} (hi : i < xs.length) {v : Int} (hv : B8 v) : ∃ a b, seal_Bytes.f xs = some a ∧ seal_Bytes.f (xs.set i v) = some b ∧ (a = b ↔ xs.getD i 0 = v) := by
  refine ⟨_, _, if_pos hl, if_pos (by rw [List.length_set]; exact hl), ?_⟩
  have hs : ∀ x ∈ xs.set i v, B8 x := fun x hx => by
    rcases List.mem_or_eq_of_mem_set hx with q | q
    · exact h x q
    · rw [q]; exact hv
  have hw : ∀ (ys : List Int), (∀ x ∈ ys, B8 x) → ∀ n, ∀ x ∈ (List.range n).map (seal_Bytes.wrd ys), U x := fun ys hy n x hx => by
    obtain ⟨j, _, rfl⟩ := List.mem_map.1 hx
    exact wrd_U hy j
  have hU0 : U 1818321765 := ⟨by decide, by decide⟩
  have hlen : U (xs.length : Int) := ⟨by omega, by omega⟩
  have em : (List.range ((xs.length + 7) / 8)).map (seal_Bytes.wrd (xs.set i v)) = ((List.range ((xs.length + 7) / 8)).map (seal_Bytes.wrd xs)).set (i / 8) (seal_Bytes.wrd (xs.set i v) (i / 8)) := by
    apply List.ext_getElem?
    intro j
    rw [List.getElem?_set, List.getElem?_map, List.getElem?_map]
    by_cases hj : j < (xs.length + 7) / 8
    · rw [List.getElem?_range hj]
      by_cases q : i / 8 = j
      · rw [if_pos q, if_pos (by simp; omega), q]; rfl
      · rw [if_neg q]
        exact congrArg some (wrd_other (Ne.symm q))
    · rw [List.getElem?_eq_none (by simpa using hj)]
      rw [if_neg (by omega)]; rfl
  rw [List.length_set]
  unfold seal_Bytes.dig
  rw [stepv_left hlen (fold_stepv_U _ _ hU0 (hw _ h _)) (fold_stepv_U _ _ hU0 (hw _ hs _)), em, eq_comm, fold_set1 _ (i / 8) _ _ (by simp; omega) hU0 (hw _ h _) (wrd_U hs _)]
  have eg : ((List.range ((xs.length + 7) / 8)).map (seal_Bytes.wrd xs)).getD (i / 8) 0 = seal_Bytes.wrd xs (i / 8) := by
    rw [List.getD_eq_getElem?_getD, List.getElem?_map, List.getElem?_range (by omega)]; rfl
  rw [eg, wrd_same h hi hv, eq_comm]
end Go.Proofs.YtbkjdfemamehcaaQ
