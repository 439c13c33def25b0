/- Journals: words added, and a record taken from the front. -/
import Derived.Test.YtcanekmlabehgaaQJb
namespace Go.Proofs.YtcanekmlabehgaaQ
set_option linter.unusedVariables false
set_option linter.unusedSimpArgs false
open Go.RowKit Go.Proofs.Ytcanekmlabehgaa.P46 Go.Proofs.YtcanekmlabehgaaW.PrintWords Go.Proofs.YtcanekmlabehgaaW.PrintLast Go.Proofs.YtcanekmlabehgaaW.PrintMore
/-- A number of 64 bits with a sign. -/
def I64 (x : Int) : Prop := -9223372036854775808 ≤ x ∧ x < 9223372036854775808
theorem wb_drop (v : Nat) {i : Nat} (hi : i < 8) : (wb v).drop i = ((v / 2 ^ (8 * i) % 256 : Nat) : Int) :: (wb v).drop (i + 1) := by
  rw [List.drop_eq_getElem_cons (by rw [wb_len]; exact hi)]
  simp [wb]
theorem shr_byte {v i : Nat} (hi : i < 8) : (shr .u64 (v : Int) (wrap64 (8 * (i : Int)))) % 256 = ((v / 2 ^ (8 * i) % 256 : Nat) : Int) := by
  unfold shr
  rw [w64 (x := 8 * (i : Int)) (by omega) (by omega), show (8 * (i : Int)).toNat = 8 * i by omega, Nat.min_eq_left (show 8 * i ≤ IntKind.u64.bits from Nat.le_trans (show 8 * i ≤ 56 by omega) (by decide))]
  rw [show ((2 : Int) ^ (8 * i)) = ((2 ^ (8 * i) : Nat) : Int) by simp]
  generalize 2 ^ (8 * i) = z
  omega
/-- Words, one after the other. -/
def wbs (l : List Nat) : List Int := (l.map wb).flatten
theorem wbs_len : ∀ l : List Nat, (wbs l).length = 8 * l.length
  | [] => rfl
  | a :: l => by
    have := wbs_len l
    unfold wbs at *
    simp only [List.map_cons, List.flatten_cons, List.length_append, wb_len, List.length_cons]
    omega
theorem wbs_cons (a : Nat) (l : List Nat) : wbs (a :: l) = wb a ++ wbs l := by simp [wbs]
theorem wbs_by (l : List Nat) : ∀ x ∈ wbs l, BY x := by
  intro x hx
  simp only [wbs, List.mem_flatten, List.mem_map] at hx
  obtain ⟨_, ⟨v, _, rfl⟩, h⟩ := hx
  exact wb_by v x h
theorem add_l1 (v : Nat) (ws : List Int) (n i : Int) (r : List Int) : ∀ (m b : Nat) (x0 : List Int), 8 - b = m → b ≤ 8 → x0.length + m ≤ 2000000 → Ev (fun k => journal_add_uint64.l0 k (x0 ++ (wb v).drop b) ws n (wrap64 (i + 1))) r → Ev (fun k => journal_add_uint64.l1 k x0 (v : Int) ws n i (b : Int)) r
  | 0, b, x0, hm, hb, hx, h => by
    refine Ev.step (fun k => by rw [journal_add_uint64.l1]) ?_
    rw [List.drop_of_length_le (by rw [wb_len]; omega), List.append_nil] at h
    exact evJF (by omega) h
  | m + 1, b, x0, hm, hb, hx, h => by
    refine Ev.step (fun k => by rw [journal_add_uint64.l1]) ?_
    refine evJT (by omega) (evJT (by rw [w64 (x := 8 * (b : Int)) (by omega) (by omega)]; omega) (evJT (by omega) ?_))
    rw [shr_byte (by omega), w64 (x := (b : Int) + 1) (by omega) (by omega), show (b : Int) + 1 = ((b + 1 : Nat) : Int) by omega]
    refine add_l1 v ws n i r m (b + 1) (x0 ++ [((v / 2 ^ (8 * b) % 256 : Nat) : Int)]) (by omega) (by omega) (by simp; omega) ?_
    rw [wb_drop v (by omega)] at h
    simpa [List.append_assoc] using h
theorem add_l0 (ws : List Nat) (hn : ws.length ≤ 1000) : ∀ (m i : Nat) (x0 : List Int), ws.length - i = m → x0.length + 8 * m ≤ 1000000 → Ev (fun k => journal_add_uint64.l0 k x0 (ws.map (fun w : Nat => (w : Int))) (ws.length : Int) (i : Int)) (x0 ++ wbs (ws.drop i))
  | 0, i, x0, hm, hx => by
    refine Ev.step (fun k => by rw [journal_add_uint64.l0]) ?_
    rw [List.drop_of_length_le (by omega), show wbs [] = [] from rfl, List.append_nil]
    exact evJF (by omega) (Ev.now _)
  | m + 1, i, x0, hm, hx => by
    refine Ev.step (fun k => by rw [journal_add_uint64.l0]) ?_
    have hi : i < ws.length := by omega
    refine evJT (by omega) (evJT (by omega) (evJT (by rw [List.length_map]; omega) ?_))
    rw [show rd (ws.map (fun w : Nat => (w : Int))) (i : Int) = ((ws[i] : Nat) : Int) by simp [rd, hi]]
    refine add_l1 ws[i] _ _ _ _ 8 0 x0 rfl (by omega) (by omega) ?_
    rw [List.drop_zero, w64 (x := (i : Int) + 1) (by omega) (by omega), show (i : Int) + 1 = ((i + 1 : Nat) : Int) by omega]
    have ih := add_l0 ws hn m (i + 1) (x0 ++ wb ws[i]) (by omega) (by rw [List.length_append, wb_len]; omega)
    rw [List.drop_eq_getElem_cons hi, wbs_cons, ← List.append_assoc]
    exact ih
theorem add_f (ws : List Nat) (hn : ws.length ≤ 1000) (x0 : List Int) (hx : x0.length ≤ 900000) : Ev (fun k => journal_add_uint64.f k x0 (ws.map (fun w : Nat => (w : Int)))) (x0 ++ wbs ws) := by
  unfold journal_add_uint64.f
  rw [List.length_map]
  exact add_l0 ws hn _ 0 x0 rfl (by omega)
theorem addi_l1 (w : Int) (ws : List Int) (n i : Int) (r : List Int) : ∀ (m b : Nat) (x0 : List Int), 8 - b = m → b ≤ 8 → x0.length + m ≤ 2000000 → Ev (fun k => journal_add_int.l0 k (x0 ++ (wb (u64 w)).drop b) ws n (wrap64 (i + 1))) r → Ev (fun k => journal_add_int.l1 k x0 w ws n i (b : Int)) r
  | 0, b, x0, hm, hb, hx, h => by
    refine Ev.step (fun k => by rw [journal_add_int.l1]) ?_
    rw [List.drop_of_length_le (by rw [wb_len]; omega), List.append_nil] at h
    exact evJF (by omega) h
  | m + 1, b, x0, hm, hb, hx, h => by
    refine Ev.step (fun k => by rw [journal_add_int.l1]) ?_
    refine evJT (by omega) (evJT (by rw [w64 (x := 8 * (b : Int)) (by omega) (by omega)]; omega) (evJT (by omega) ?_))
    rw [← u64_cast, shr_byte (by omega), w64 (x := (b : Int) + 1) (by omega) (by omega), show (b : Int) + 1 = ((b + 1 : Nat) : Int) by omega]
    refine addi_l1 w ws n i r m (b + 1) (x0 ++ [((u64 w / 2 ^ (8 * b) % 256 : Nat) : Int)]) (by omega) (by omega) (by simp; omega) ?_
    rw [wb_drop _ (by omega)] at h
    simpa [List.append_assoc] using h
theorem addi_l0 (ws : List Int) (hn : ws.length ≤ 1000) : ∀ (m i : Nat) (x0 : List Int), ws.length - i = m → x0.length + 8 * m ≤ 1000000 → Ev (fun k => journal_add_int.l0 k x0 ws (ws.length : Int) (i : Int)) (x0 ++ wbs ((ws.drop i).map u64))
  | 0, i, x0, hm, hx => by
    refine Ev.step (fun k => by rw [journal_add_int.l0]) ?_
    rw [List.drop_of_length_le (by omega), List.map_nil, show wbs [] = [] from rfl, List.append_nil]
    exact evJF (by omega) (Ev.now _)
  | m + 1, i, x0, hm, hx => by
    refine Ev.step (fun k => by rw [journal_add_int.l0]) ?_
    have hi : i < ws.length := by omega
    refine evJT (by omega) (evJT (by omega) (evJT (by omega) ?_))
    rw [show rd ws (i : Int) = ws[i] by simp [rd, hi]]
    refine addi_l1 ws[i] _ _ _ _ 8 0 x0 rfl (by omega) (by omega) ?_
    rw [List.drop_zero, w64 (x := (i : Int) + 1) (by omega) (by omega), show (i : Int) + 1 = ((i + 1 : Nat) : Int) by omega]
    have ih := addi_l0 ws hn m (i + 1) (x0 ++ wb (u64 ws[i])) (by omega) (by rw [List.length_append, wb_len]; omega)
    rw [List.drop_eq_getElem_cons hi, List.map_cons, wbs_cons, ← List.append_assoc]
    exact ih
theorem addi_f (ws : List Int) (hn : ws.length ≤ 1000) (x0 : List Int) (hx : x0.length ≤ 900000) : Ev (fun k => journal_add_int.f k x0 ws) (x0 ++ wbs (ws.map u64)) := by
  unfold journal_add_int.f
  exact addi_l0 ws hn _ 0 x0 rfl (by omega)

/-- Numbers taken from the front. -/
def nums : Nat → List Int → List Int
  | 0, _ => []
  | n + 1, j => wrap64 ((bw (j.take 8) : Nat) : Int) :: nums n (j.drop 8)
theorem nums_len : ∀ (n : Nat) (j : List Int), (nums n j).length = n
  | 0, _ => rfl
  | n + 1, j => by simp [nums, nums_len n]
/-- A record at the front: its numbers, its mark, what follows. -/
def dec (key : Nat) (j : List Int) : Option (List Int × Nat × List Int) :=
  if j.length < 16 then none
  else if wrap64 ((bw (j.take 8) : Nat) : Int) < 0 ∨ wrap64 ((bw (j.take 8) : Nat) : Int) > 64 then none
  else if bw ((j.drop 8).take 8) ≠ wordsN [wrap64 ((bw (j.take 8) : Nat) : Int)] then none
  else if (j.drop 16).length < 8 * ((wrap64 ((bw (j.take 8) : Nat) : Int)).toNat + 1) then none
  else if bw (((j.drop 16).drop (8 * (wrap64 ((bw (j.take 8) : Nat) : Int)).toNat)).take 8) = tagN key (nums (wrap64 ((bw (j.take 8) : Nat) : Int)).toNat (j.drop 16)) then
    some (nums (wrap64 ((bw (j.take 8) : Nat) : Int)).toNat (j.drop 16), tagN key (nums (wrap64 ((bw (j.take 8) : Nat) : Int)).toNat (j.drop 16)), (j.drop 16).drop (8 * (wrap64 ((bw (j.take 8) : Nat) : Int)).toNat + 8))
  else none
theorem drop_by {j : List Int} (h : ∀ x ∈ j, BY x) (n : Nat) : ∀ x ∈ j.drop n, BY x := fun x hx => h x (List.mem_of_mem_drop hx)
theorem take_by {j : List Int} (h : ∀ x ∈ j, BY x) (n : Nat) : ∀ x ∈ j.take n, BY x := fun x hx => h x (List.mem_of_mem_take hx)
theorem rec_l0 {key : Nat} (hk : key < 2 ^ 64) (n : Nat) (hn : n ≤ 64) : ∀ (m i : Nat) (r0 j : List Int), n - i = m → i ≤ n → r0.length + m ≤ 1000 → 8 * (m + 1) ≤ j.length → (∀ x ∈ j, BY x) →
    Ev (fun k => journal_record.l0 k (key : Int) r0 j (n : Int) (i : Int)) (r0 ++ nums m j, ((bw ((j.drop (8 * m)).take 8) : Nat) : Int), j.drop (8 * m + 8), (((bw ((j.drop (8 * m)).take 8) : Nat) : Int) == ((tagN key (r0 ++ nums m j) : Nat) : Int)))
  | 0, i, r0, j, hm, hi, hr, hj, hb => by
    refine Ev.step (fun k => by rw [journal_record.l0]) ?_
    refine evJF (by omega) ?_
    refine Ev.bind (take_f (by omega) hb) ?_
    rw [tag46 hk]
    simp only [nums, List.append_nil, Nat.mul_zero, List.drop_zero, Nat.zero_add]
    exact Ev.now _
  | m + 1, i, r0, j, hm, hi, hr, hj, hb => by
    refine Ev.step (fun k => by rw [journal_record.l0]) ?_
    refine evJT (by omega) ?_
    refine Ev.bind (take_int_f (by omega) hb) ?_
    refine evJT (by omega) ?_
    have ih := rec_l0 hk n hn m (i + 1) (r0 ++ [wrap64 ((bw (j.take 8) : Nat) : Int)]) (j.drop 8) (by omega) (by omega) (by simp; omega) (by rw [List.length_drop]; omega) (drop_by hb 8)
    rw [w64 (x := (i : Int) + 1) (by omega) (by omega), show (i : Int) + 1 = ((i + 1 : Nat) : Int) by omega]
    simp only [nums]
    rw [List.append_assoc, List.drop_drop, List.drop_drop] at ih
    rw [show 8 * (m + 1) = 8 + 8 * m by omega, show 8 + 8 * m + 8 = 8 + (8 * m + 8) by omega]
    exact ih
theorem rec_f {key : Nat} (hk : key < 2 ^ 64) {j : List Int} (hb : ∀ x ∈ j, BY x) (hj : j.length ≤ 1000000) :
    ∃ b : List Int × Int × List Int × Bool, Ev (fun k => journal_record.f k j (key : Int)) b ∧ (match dec key j with | some (r, m, t) => b = (r, (m : Int), t, true) | none => b.2.2.2 = false) := by
  have hj0 : ∀ (x6 : List Int) (x8 : Int), Ev (fun k => journal_record.j0 k (key : Int) ([] : List Int) x6 x8 true) (([] : List Int), (0 : Int), ([] : List Int), false) := fun x6 x8 => by
    refine Ev.step (fun k => by rw [journal_record.j0]) ?_
    exact evJT rfl (Ev.now _)
  unfold journal_record.f
  by_cases h8 : j.length < 8
  · refine ⟨_, Ev.bind (take_int_short h8) (Ev.bind (take_short h8) (evJF Bool.false_ne_true (hj0 _ _))), ?_⟩
    unfold dec
    rw [if_pos (by omega)]
  by_cases h16 : j.length < 16
  · refine ⟨_, Ev.bind (take_int_f (by omega) hb) (Ev.bind (take_short (by rw [List.length_drop]; omega)) (evJF Bool.false_ne_true (hj0 _ _))), ?_⟩
    unfold dec
    rw [if_pos h16]
  have hA := take_int_f (j := j) (by omega) hb
  have hB := take_f (j := j.drop 8) (by rw [List.length_drop]; omega) (drop_by hb 8)
  rw [List.drop_drop] at hB
  unfold dec
  rw [if_neg h16]
  generalize hn : wrap64 ((bw (j.take 8) : Nat) : Int) = n at *
  by_cases hn0 : n < 0
  · rw [if_pos (Or.inl hn0)]
    exact ⟨_, Ev.bind hA (Ev.bind hB (evJT rfl (evJT hn0 (hj0 _ _)))), rfl⟩
  by_cases hn64 : n > 64
  · rw [if_pos (Or.inr hn64)]
    exact ⟨_, Ev.bind hA (Ev.bind hB (evJT rfl (evJF hn0 (evJT hn64 (hj0 _ _))))), rfl⟩
  rw [if_neg (by omega)]
  by_cases hw : bw ((j.drop 8).take 8) = wordsN [n]
  · rw [if_neg (fun e => e hw)]
    obtain ⟨N, rfl⟩ : ∃ N : Nat, n = N := ⟨n.toNat, by omega⟩
    rw [Int.toNat_natCast]
    have hN : N ≤ 64 := by omega
    have hww : Ev (fun k => seal_Words.f [(N : Int)]) ((wordsN [(N : Int)] : Nat) : Int) := by rw [words46]; exact Ev.now _
    have hmul : wrap64 (8 * wrap64 ((N : Int) + 1)) = ((8 * (N + 1) : Nat) : Int) := by rw [w64 (x := (N : Int) + 1) (by omega) (by omega), w64 (by omega) (by omega)]; omega
    by_cases hl : (j.drop 16).length < 8 * (N + 1)
    · rw [if_pos hl]
      refine ⟨(([] : List Int), (0 : Int), ([] : List Int), false), Ev.bind hA (Ev.bind hB (evJT rfl (evJF hn0 (evJF hn64 (Ev.bind hww (evJT (by show ((bw ((j.drop 8).take 8) : Nat) : Int) = _; rw [hw]) ?_)))))), ?_⟩
      · simp only []
        rw [hmul, show decide (((j.drop (8 + 8)).length : Int) < ((8 * (N + 1) : Nat) : Int)) = true by rw [decide_eq_true_iff, show j.drop (8 + 8) = j.drop 16 from rfl]; omega]
        exact hj0 _ _
      · rfl
    · rw [if_neg hl]
      have hL := rec_l0 hk N hN N 0 [] (j.drop 16) rfl (by omega) (by simp; omega) (by omega) (drop_by hb 16)
      refine ⟨([] ++ nums N (j.drop 16), ((bw (((j.drop 16).drop (8 * N)).take 8) : Nat) : Int), (j.drop 16).drop (8 * N + 8), (((bw (((j.drop 16).drop (8 * N)).take 8) : Nat) : Int) == ((tagN key ([] ++ nums N (j.drop 16)) : Nat) : Int))), Ev.bind hA (Ev.bind hB (evJT rfl (evJF hn0 (evJF hn64 (Ev.bind hww (evJT (by show ((bw ((j.drop 8).take 8) : Nat) : Int) = _; rw [hw]) ?_)))))), ?_⟩
      · simp only []
        rw [hmul, show decide (((j.drop (8 + 8)).length : Int) < ((8 * (N + 1) : Nat) : Int)) = false by rw [decide_eq_false_iff_not, show j.drop (8 + 8) = j.drop 16 from rfl]; omega]
        refine Ev.step (fun k => by rw [journal_record.j0]) ?_
        exact evJF (by decide) hL
      · rw [List.nil_append]
        by_cases ht : bw (((j.drop 16).drop (8 * N)).take 8) = tagN key (nums N (j.drop 16))
        · rw [if_pos ht, ht]
          simp
        · rw [if_neg ht]
          simp only [beq_eq_false_iff_ne, ne_eq]
          omega
  · rw [if_pos hw]
    refine ⟨(([] : List Int), (0 : Int), ([] : List Int), false), Ev.bind hA (Ev.bind hB (evJT rfl (evJF hn0 (evJF hn64 (Ev.bind (a := ((wordsN [n] : Nat) : Int)) (by rw [words46]; exact Ev.now _) (evJF (by show ¬ ((bw ((j.drop 8).take 8) : Nat) : Int) = _; omega) (hj0 _ _))))))), rfl⟩
end Go.Proofs.YtcanekmlabehgaaQ
