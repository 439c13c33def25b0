/- Journals: words as bytes, and how they are taken and added. -/
import Derived.Test.YtcanekmlabehgaaP46x2
import Derived.Test.YtcanekmlabehgaaQJa
namespace Go.Proofs.YtcanekmlabehgaaQ
set_option linter.unusedVariables false
set_option linter.unusedSimpArgs false
open Go.RowKit Go.Proofs.Ytcanekmlabehgaa.P46 Go.Proofs.YtcanekmlabehgaaW.PrintWords Go.Proofs.YtcanekmlabehgaaW.PrintLast Go.Proofs.YtcanekmlabehgaaW.PrintMore
/-- A byte. -/
def BY (x : Int) : Prop := 0 ≤ x ∧ x < 256
/-- The bytes of a word. -/
def wb (v : Nat) : List Int := (List.range 8).map fun i => ((v / 2 ^ (8 * i) % 256 : Nat) : Int)
theorem wb_len (v : Nat) : (wb v).length = 8 := by simp [wb]
theorem wb_by (v : Nat) : ∀ x ∈ wb v, BY x := by
  intro x hx
  simp only [wb, List.mem_map] at hx
  obtain ⟨i, _, rfl⟩ := hx
  constructor <;> omega
/-- The word of some bytes. -/
def bw : List Int → Nat
  | [] => 0
  | b :: l => b.toNat + 256 * bw l
theorem wb_eq (v : Nat) : wb v = [((v % 256 : Nat) : Int), ((v / 256 % 256 : Nat) : Int), ((v / 65536 % 256 : Nat) : Int), ((v / 16777216 % 256 : Nat) : Int), ((v / 4294967296 % 256 : Nat) : Int), ((v / 1099511627776 % 256 : Nat) : Int), ((v / 281474976710656 % 256 : Nat) : Int), ((v / 72057594037927936 % 256 : Nat) : Int)] := by
  simp [wb, List.range, List.range.loop]
theorem bw_wb {v : Nat} (h : v < 2 ^ 64) : bw (wb v) = v := by
  rw [wb_eq]
  simp only [bw, Int.toNat_natCast]
  omega
def wbr : Nat → Nat → List Int
  | 0, _ => []
  | n + 1, v => ((v % 256 : Nat) : Int) :: wbr n (v / 256)
theorem wbr_bw : ∀ (n : Nat) (l : List Int), l.length = n → (∀ x ∈ l, BY x) → wbr n (bw l) = l
  | 0, [], _, _ => rfl
  | n + 1, b :: l, h, hl => by
    have hb := hl b (by simp)
    unfold BY at hb
    simp only [bw, wbr]
    rw [show (b.toNat + 256 * bw l) / 256 = bw l by omega, wbr_bw n l (by simpa using h) (fun x hx => hl x (by simp [hx])), show (((b.toNat + 256 * bw l) % 256 : Nat) : Int) = b by omega]
theorem wb_wbr (v : Nat) : wb v = wbr 8 v := by
  rw [wb_eq]
  simp only [wbr, Nat.div_div_eq_div_mul]
theorem wb_bw {l : List Int} (h : l.length = 8) (hl : ∀ x ∈ l, BY x) : wb (bw l) = l := by rw [wb_wbr, wbr_bw 8 l h hl]
theorem bw_lt : ∀ (l : List Int), (∀ x ∈ l, BY x) → bw l < 2 ^ (8 * l.length)
  | [], _ => by simp [bw]
  | b :: l, h => by
    have h1 := bw_lt l (fun x hx => h x (by simp [hx]))
    have h2 := h b (by simp)
    unfold BY at h2
    simp only [bw, List.length_cons]
    rw [show 8 * (l.length + 1) = 8 * l.length + 8 by omega, Nat.pow_add]
    omega
theorem bw_snoc : ∀ (l : List Int) (b : Int), bw (l ++ [b]) = bw l + b.toNat * 2 ^ (8 * l.length)
  | [], b => by simp [bw]
  | a :: l, b => by
    rw [List.cons_append]
    simp only [bw, List.length_cons]
    rw [bw_snoc l b, show 8 * (l.length + 1) = 8 * l.length + 8 by omega, Nat.pow_add]
    generalize 2 ^ (8 * l.length) = z
    rw [Nat.mul_add, show b.toNat * (z * 2 ^ 8) = 256 * (b.toNat * z) by rw [← Nat.mul_assoc, Nat.mul_comm _ (2 ^ 8)]]
    omega
theorem or64 {a b : Nat} (ha : a < 2 ^ 64) (hb : b < 2 ^ 64) : Go.bits .or .u64 (a : Int) (b : Int) = ((a ||| b : Nat) : Int) := by
  unfold Go.bits
  have ha' : a % 2 ^ 64 = a := Nat.mod_eq_of_lt ha
  have hb' : b % 2 ^ 64 = b := Nat.mod_eq_of_lt hb
  show IntKind.u64.wrap ((BitVec.ofInt IntKind.u64.bits (a : Int) ||| BitVec.ofInt IntKind.u64.bits (b : Int)).toNat : Int) = _
  have e : (BitVec.ofInt IntKind.u64.bits (a : Int) ||| BitVec.ofInt IntKind.u64.bits (b : Int)).toNat = a ||| b := by
    rw [BitVec.toNat_or, BitVec.ofInt_natCast, BitVec.ofInt_natCast, BitVec.toNat_ofNat, BitVec.toNat_ofNat]
    rw [show (2 : Nat) ^ IntKind.u64.bits = 2 ^ 64 from rfl, ha', hb']
  rw [e]
  have := Nat.or_lt_two_pow ha hb
  exact wu64 (by omega) (by omega)
theorem pow_le_56 {i : Nat} (hi : i < 8) : (2 : Nat) ^ (8 * i) ≤ 2 ^ 56 := Nat.pow_le_pow_right (by decide) (by omega)
/-- One byte more. -/
theorem or_byte {a i : Nat} {b : Int} (hi : i < 8) (ha : a < 2 ^ (8 * i)) (hb : BY b) : Go.bits .or .u64 (a : Int) (shl .u64 (IntKind.u64.wrap b) (wrap64 (8 * (i : Int)))) = ((a + b.toNat * 2 ^ (8 * i) : Nat) : Int) := by
  obtain ⟨B, rfl⟩ : ∃ B : Nat, b = B := ⟨b.toNat, by have := hb.1; omega⟩
  have hB : B < 256 := by have := hb.2; omega
  have hp := pow_le_56 hi
  have hm : B * 2 ^ (8 * i) ≤ 255 * 2 ^ 56 := Nat.mul_le_mul (by omega) hp
  have hs : shl .u64 (IntKind.u64.wrap (B : Int)) (wrap64 (8 * (i : Int))) = ((B * 2 ^ (8 * i) : Nat) : Int) := by
    unfold shl
    rw [wu64 (x := (B : Int)) (by omega) (by omega), w64 (x := 8 * (i : Int)) (by omega) (by omega), show (8 * (i : Int)).toNat = 8 * i by omega, Nat.min_eq_left (show 8 * i ≤ IntKind.u64.bits from Nat.le_trans (show 8 * i ≤ 56 by omega) (by decide))]
    rw [show (B : Int) * 2 ^ (8 * i) = ((B * 2 ^ (8 * i) : Nat) : Int) by simp]
    exact wu64 (by omega) (by omega)
  rw [hs, or64 (by omega) (by omega)]
  have h := Nat.two_pow_add_eq_or_of_lt ha B
  rw [Int.toNat_natCast, Nat.mul_comm B, Nat.or_comm, ← h, Nat.add_comm]
theorem take_loop (j y : List Int) (hj : 8 ≤ j.length) (hy : y.length = 8) (hb : ∀ x ∈ y, BY x) : ∀ (m i : Nat), 8 - i = m → i ≤ 8 → Ev (fun k => journal_take_uint64.l0 k j ((bw (y.take i) : Nat) : Int) y 8 (i : Int)) (((bw y : Nat) : Int), j.drop 8, true)
  | 0, i, hm, hi => by
    refine Ev.step (fun k => by rw [journal_take_uint64.l0]) ?_
    rw [List.take_of_length_le (show y.length ≤ i by omega)]
    exact evJF (by omega) (evJT (by omega) (Ev.now _))
  | m + 1, i, hm, hi => by
    refine Ev.step (fun k => by rw [journal_take_uint64.l0]) ?_
    have hiy : i < y.length := by omega
    refine evJT (by omega) (evJT (by omega) (evJT (by omega) ?_))
    rw [show rd y (i : Int) = y[i] by simp [rd, hiy], or_byte (by omega) (by have := bw_lt (y.take i) (fun x hx => hb x (List.mem_of_mem_take hx)); rwa [List.length_take, Nat.min_eq_left (by omega)] at this) (hb _ (List.getElem_mem hiy))]
    refine evJT (by rw [w64 (by omega) (by omega)]; omega) ?_
    have ih := take_loop j y hj hy hb m (i + 1) (by omega) (by omega)
    rw [List.take_succ_eq_append_getElem hiy, bw_snoc, List.length_take, Nat.min_eq_left (by omega)] at ih
    rw [w64 (x := (i : Int) + 1) (by omega) (by omega), show (i : Int) + 1 = ((i + 1 : Nat) : Int) by omega]
    exact ih
theorem take_f {j : List Int} (hj : 8 ≤ j.length) (hb : ∀ x ∈ j, BY x) : Ev (fun k => journal_take_uint64.f k j) (((bw (j.take 8) : Nat) : Int), j.drop 8, true) := by
  unfold journal_take_uint64.f
  have hl : (j.take 8).length = 8 := by rw [List.length_take]; omega
  refine evJF (by omega) (evJT (by omega) (Ev.bind (Ev.now _) ?_))
  rw [hl]
  exact take_loop j (j.take 8) hj hl (fun x hx => hb x (List.mem_of_mem_take hx)) 8 0 rfl (by omega)
theorem take_short {j : List Int} (hj : j.length < 8) : Ev (fun k => journal_take_uint64.f k j) (0, j, false) := by
  unfold journal_take_uint64.f
  exact evJT (by omega) (Ev.now _)
theorem take_int_loop (j y : List Int) (hj : 8 ≤ j.length) (hy : y.length = 8) (hb : ∀ x ∈ y, BY x) : ∀ (m i : Nat), 8 - i = m → i ≤ 8 → Ev (fun k => journal_take_int.l0 k j ((bw (y.take i) : Nat) : Int) y 8 (i : Int)) (wrap64 ((bw y : Nat) : Int), j.drop 8, true)
  | 0, i, hm, hi => by
    refine Ev.step (fun k => by rw [journal_take_int.l0]) ?_
    rw [List.take_of_length_le (show y.length ≤ i by omega)]
    exact evJF (by omega) (evJT (by omega) (Ev.now _))
  | m + 1, i, hm, hi => by
    refine Ev.step (fun k => by rw [journal_take_int.l0]) ?_
    have hiy : i < y.length := by omega
    refine evJT (by omega) (evJT (by omega) (evJT (by omega) ?_))
    rw [show rd y (i : Int) = y[i] by simp [rd, hiy], or_byte (by omega) (by have := bw_lt (y.take i) (fun x hx => hb x (List.mem_of_mem_take hx)); rwa [List.length_take, Nat.min_eq_left (by omega)] at this) (hb _ (List.getElem_mem hiy))]
    refine evJT (by rw [w64 (by omega) (by omega)]; omega) ?_
    have ih := take_int_loop j y hj hy hb m (i + 1) (by omega) (by omega)
    rw [List.take_succ_eq_append_getElem hiy, bw_snoc, List.length_take, Nat.min_eq_left (by omega)] at ih
    rw [w64 (x := (i : Int) + 1) (by omega) (by omega), show (i : Int) + 1 = ((i + 1 : Nat) : Int) by omega]
    exact ih
theorem take_int_f {j : List Int} (hj : 8 ≤ j.length) (hb : ∀ x ∈ j, BY x) : Ev (fun k => journal_take_int.f k j) (wrap64 ((bw (j.take 8) : Nat) : Int), j.drop 8, true) := by
  unfold journal_take_int.f
  have hl : (j.take 8).length = 8 := by rw [List.length_take]; omega
  refine evJF (by omega) (evJT (by omega) (Ev.bind (Ev.now _) ?_))
  rw [hl]
  exact take_int_loop j (j.take 8) hj hl (fun x hx => hb x (List.mem_of_mem_take hx)) 8 0 rfl (by omega)
theorem take_int_short {j : List Int} (hj : j.length < 8) : Ev (fun k => journal_take_int.f k j) (0, j, false) := by
  unfold journal_take_int.f
  exact evJT (by omega) (Ev.now _)
end Go.Proofs.YtcanekmlabehgaaQ
