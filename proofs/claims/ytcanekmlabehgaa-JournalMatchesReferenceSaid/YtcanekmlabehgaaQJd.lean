/- Journals: records and their bytes; what reading and putting compute. -/
import Derived.Test.YtcanekmlabehgaaQJc
import Derived.Test.YtcanekmlabehgaaP46x3
namespace Go.Proofs.YtcanekmlabehgaaQ
set_option linter.unusedVariables false
set_option linter.unusedSimpArgs false
open Go.RowKit Go.Proofs.Ytcanekmlabehgaa.P46 Go.Proofs.YtcanekmlabehgaaW.PrintWords Go.Proofs.YtcanekmlabehgaaW.PrintLast Go.Proofs.YtcanekmlabehgaaW.PrintMore
/-- The bytes of a record. -/
def enc (key : Nat) (r : List Int) : List Int := wbs [r.length, wordsN [(r.length : Int)]] ++ (wbs (r.map u64) ++ wbs [tagN key r])
theorem enc_len (key : Nat) (r : List Int) : (enc key r).length = 8 * r.length + 24 := by
  unfold enc
  simp only [List.length_append, wbs_len, List.length_map, List.length_cons, List.length_nil]
  omega
theorem enc_by (key : Nat) (r : List Int) : ∀ x ∈ enc key r, BY x := by
  intro x hx
  unfold enc at hx
  rcases List.mem_append.1 hx with h | h
  · exact wbs_by _ x h
  · rcases List.mem_append.1 h with h | h <;> exact wbs_by _ x h
theorem take_wb (v : Nat) (X : List Int) : (wb v ++ X).take 8 = wb v := List.take_left' (wb_len v)
theorem drop_wb (v : Nat) (X : List Int) : (wb v ++ X).drop 8 = X := List.drop_left' (wb_len v)
theorem drop_wbs (l : List Nat) (X : List Int) : (wbs l ++ X).drop (8 * l.length) = X := List.drop_left' (wbs_len l)
theorem wrapI {x : Int} (h : I64 x) : wrap64 ((bw (wb (u64 x)) : Nat) : Int) = x := by rw [bw_wb (u64_lt x)]; exact wrap_u64 h
theorem nums_wbs : ∀ (r : List Int) (X : List Int), (∀ x ∈ r, I64 x) → nums r.length (wbs (r.map u64) ++ X) = r
  | [], X, h => rfl
  | x :: r, X, h => by
    simp only [List.map_cons, List.length_cons, nums, wbs_cons, List.append_assoc]
    rw [take_wb, drop_wb, wrapI (h x (by simp)), nums_wbs r X (fun y hy => h y (by simp [hy]))]
theorem wbs_one (v : Nat) : wbs [v] = wb v := by simp [wbs]
theorem dec_enc {key : Nat} {r : List Int} (hr : r.length ≤ 64) (hi : ∀ x ∈ r, I64 x) (t : List Int) : dec key (enc key r ++ t) = some (r, tagN key r, t) := by
  have hl := enc_len key r
  have e1 : enc key r ++ t = wb r.length ++ (wb (wordsN [(r.length : Int)]) ++ (wbs (r.map u64) ++ (wb (tagN key r) ++ t))) := by
    unfold enc
    rw [wbs_cons, wbs_one, wbs_one]
    simp only [List.append_assoc]
  have e2 : (enc key r ++ t).take 8 = wb r.length := by rw [e1, take_wb]
  have e3 : (enc key r ++ t).drop 8 = wb (wordsN [(r.length : Int)]) ++ (wbs (r.map u64) ++ (wb (tagN key r) ++ t)) := by rw [e1, drop_wb]
  have e4 : (enc key r ++ t).drop 16 = wbs (r.map u64) ++ (wb (tagN key r) ++ t) := by rw [show (16 : Nat) = 8 + 8 from rfl, ← List.drop_drop, e3, drop_wb]
  have e5 : wrap64 ((bw (wb r.length) : Nat) : Int) = (r.length : Int) := by rw [bw_wb (by omega)]; exact w64 (by omega) (by omega)
  have e6 : (wbs (r.map u64) ++ (wb (tagN key r) ++ t)).drop (8 * r.length) = wb (tagN key r) ++ t := by
    have := drop_wbs (r.map u64) (wb (tagN key r) ++ t)
    rwa [List.length_map] at this
  unfold dec
  rw [e2, e5, e3, e4, Int.toNat_natCast, take_wb, bw_wb (wordsN_lt _), nums_wbs r _ hi, ← List.drop_drop, e6, take_wb, drop_wb, bw_wb (tagN_lt _ _)]
  rw [if_neg (by rw [List.length_append]; omega), if_neg (by omega), if_neg (by simp), if_neg (by simp only [List.length_append, wbs_len, List.length_map, wb_len]; omega), if_pos rfl]
theorem dec_short {key : Nat} {j : List Int} (h : j.length < 16) : dec key j = none := by unfold dec; rw [if_pos h]
/-- Records, one after the other. -/
def jn : Nat → List (List Int) → List Int
  | _, [] => []
  | key, r :: l => enc key r ++ jn (tagN key r) l
/-- The mark behind them. -/
def lk : Nat → List (List Int) → Nat
  | key, [] => key
  | key, r :: l => lk (tagN key r) l
theorem lk_lt : ∀ (l : List (List Int)) (key : Nat), key < 2 ^ 64 → lk key l < 2 ^ 64
  | [], key, h => h
  | r :: l, key, h => lk_lt l _ (tagN_lt _ _)
theorem jn_by : ∀ (l : List (List Int)) (key : Nat), ∀ x ∈ jn key l, BY x
  | [], key, x, hx => by simp [jn] at hx
  | r :: l, key, x, hx => by
    rcases List.mem_append.1 hx with h | h
    · exact enc_by _ _ x h
    · exact jn_by l _ x h
theorem jn_app : ∀ (l m : List (List Int)) (key : Nat), jn key (l ++ m) = jn key l ++ jn (lk key l) m
  | [], m, key => rfl
  | r :: l, m, key => by simp only [List.cons_append, jn, lk, jn_app l m, List.append_assoc]
theorem lk_app : ∀ (l m : List (List Int)) (key : Nat), lk key (l ++ m) = lk (lk key l) m
  | [], m, key => rfl
  | r :: l, m, key => by simp only [List.cons_append, lk, lk_app l m]
/-- Records that can be read: few numbers, each of 64 bits. -/
def Fit (l : List (List Int)) : Prop := ∀ r ∈ l, r.length ≤ 64 ∧ ∀ x ∈ r, I64 x
/-- What the walk through the records finds. -/
def par : Nat → Nat → List Int → List (List Int) × List Int
  | 0, _, j => ([], j)
  | n + 1, key, j => match dec key j with
    | none => ([], j)
    | some (r, m, t) => (r :: (par n m t).1, (par n m t).2)
theorem par_none {n key : Nat} {j : List Int} (h : dec key j = none) : par n key j = ([], j) := by
  cases n with
  | zero => rfl
  | succ n => simp only [par, h]
theorem par_some {n key : Nat} {j r : List Int} {m : Nat} {t : List Int} (h : dec key j = some (r, m, t)) : par (n + 1) key j = (r :: (par n m t).1, (par n m t).2) := by simp only [par, h]
theorem par_jn (l : List (List Int)) : ∀ (n key : Nat) (t : List Int), l.length ≤ n → Fit l → dec (lk key l) t = none → par n key (jn key l ++ t) = (l, t) := by
  induction l with
  | nil =>
    intro n key t hn hf ht
    rw [show jn key [] = [] from rfl, List.nil_append]
    exact par_none ht
  | cons r l ih =>
    intro n key t hn hf ht
    cases n with
    | zero => simp at hn
    | succ n =>
      have hr := hf r (by simp)
      rw [show jn key (r :: l) = enc key r ++ jn (tagN key r) l from rfl, List.append_assoc, par_some (dec_enc hr.1 hr.2 _), ih n (tagN key r) t (by simpa using hn) (fun x hx => hf x (by simp [hx])) ht]
theorem dec_len {key : Nat} {j : List Int} {r : List Int} {m : Nat} {t : List Int} (h : dec key j = some (r, m, t)) : t.length + 24 ≤ j.length ∧ m < 2 ^ 64 ∧ t = j.drop (j.length - t.length) := by
  unfold dec at h
  split at h
  · exact absurd h (by simp)
  split at h
  · exact absurd h (by simp)
  split at h
  · exact absurd h (by simp)
  split at h
  · exact absurd h (by simp)
  rename_i h1 h2 h3 h4
  split at h
  · simp only [Option.some.injEq, Prod.mk.injEq] at h
    obtain ⟨rfl, rfl, rfl⟩ := h
    generalize (wrap64 ((bw (j.take 8) : Nat) : Int)).toNat = N at *
    rw [List.length_drop] at h4
    refine ⟨by simp only [List.length_drop]; omega, tagN_lt _ _, ?_⟩
    rw [List.drop_drop]
    congr 1
    simp only [List.length_drop]
    omega
  · exact absurd h (by simp)
theorem read_loop : ∀ (n : Nat) (key : Nat) (j : List Int) (out : List (List Int)), j.length ≤ n → key < 2 ^ 64 → (∀ x ∈ j, BY x) → n ≤ 1000000 → out.length + n ≤ 2000000 →
    Ev (fun k => journal_Read.loop k (key : Int) j out) (out ++ (par (n + 1) key j).1, (par (n + 1) key j).2) := by
  intro n
  induction n using Nat.strongRecOn with
  | ind n ih =>
    intro key j out hn hk hb hm ho
    obtain ⟨b, hb1, hb2⟩ := rec_f hk hb (by omega)
    refine Ev.step (fun k => by rw [journal_Read.loop]) ?_
    refine Ev.bind hb1 ?_
    cases hd : dec key j with
    | none =>
      rw [hd] at hb2
      simp only [] at hb2
      rw [par_none hd, List.append_nil]
      exact evJF (by rw [hb2]; decide) (Ev.now _)
    | some p =>
      obtain ⟨r, m, t⟩ := p
      rw [hd] at hb2
      simp only [] at hb2
      subst hb2
      have hl := dec_len hd
      refine evJT rfl (evJT (by omega) ?_)
      have htb : ∀ x ∈ t, BY x := by rw [hl.2.2]; exact drop_by hb _
      obtain ⟨q, rfl⟩ : ∃ q, n = q + 1 := ⟨n - 1, by omega⟩
      have h1 := ih q (by omega) m t (out ++ [r]) (by omega) hl.2.1 htb (by omega) (by simp; omega)
      rw [par_some hd]
      rw [List.append_assoc] at h1
      exact h1
end Go.Proofs.YtcanekmlabehgaaQ
