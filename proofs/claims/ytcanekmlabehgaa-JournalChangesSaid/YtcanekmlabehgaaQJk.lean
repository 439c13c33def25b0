/- Journals of which one byte is another one: the record with it is not read. -/
import Derived.Test.YtcanekmlabehgaaQJi
namespace Go.Proofs.YtcanekmlabehgaaQ
set_option linter.unusedVariables false
set_option linter.unusedSimpArgs false
open Go.RowKit Go.Proofs.Ytcanekmlabehgaa.P46 Go.Proofs.YtcanekmlabehgaaW.PrintWords Go.Proofs.YtcanekmlabehgaaW.PrintLast Go.Proofs.YtcanekmlabehgaaW.PrintMore
theorem set_by {l : List Int} {x : Int} (hl : ∀ y ∈ l, BY y) (hx : BY x) (p : Nat) : ∀ y ∈ l.set p x, BY y := fun y hy => by
  rcases List.mem_or_eq_of_mem_set hy with h | h
  · exact hl y h
  · rw [h]; exact hx
theorem bw_set {c : List Int} {p : Nat} {x : Int} (hc : c.length = 8) (hb : ∀ y ∈ c, BY y) (hp : p < 8) (hx : BY x) (hne : x ≠ c.getD p 0) : bw (c.set p x) ≠ bw c := by
  intro e
  have h1 := wb_bw (l := c.set p x) (by rw [List.length_set]; exact hc) (set_by hb hx p)
  have h2 := wb_bw hc hb
  rw [e, h2] at h1
  have h3 := congrArg (fun l => l.getD p 0) h1
  simp only [List.getD_eq_getElem?_getD] at h3 hne
  rw [List.getElem?_set_self (by omega)] at h3
  exact hne h3.symm
theorem nums_same : ∀ (n : Nat) (Y : List Int) (s : Nat) (x : Int), 8 * n ≤ s → nums n (Y.set s x) = nums n Y
  | 0, Y, s, x, h => rfl
  | n + 1, Y, s, x, h => by
    simp only [nums]
    rw [List.take_set_of_le (by omega), List.drop_set, if_neg (by omega), nums_same n _ _ _ (by omega)]
theorem nums_set : ∀ (n : Nat) (Y : List Int) (s : Nat) (x : Int), s < 8 * n → 8 * n ≤ Y.length → (∀ y ∈ Y, BY y) → BY x → x ≠ Y.getD s 0 → ∃ v, I64 v ∧ nums n (Y.set s x) = (nums n Y).set (s / 8) v ∧ v ≠ (nums n Y).getD (s / 8) 0
  | 0, Y, s, x, hs, hY, hb, hx, hne => by omega
  | n + 1, Y, s, x, hs, hY, hb, hx, hne => by
    by_cases h8 : s < 8
    · refine ⟨wrap64 ((bw ((Y.take 8).set s x) : Nat) : Int), wrap64_I _, ?_, ?_⟩
      · simp only [nums]
        rw [List.take_set, List.drop_set_of_lt h8, show s / 8 = 0 by omega, List.set_cons_zero]
      · rw [show s / 8 = 0 by omega]
        simp only [nums, List.getD_cons_zero]
        intro e
        have hl : (Y.take 8).length = 8 := by rw [List.length_take]; omega
        have hbt := take_by hb 8
        have h1 := congrArg u64 e
        have b1 := bw_lt ((Y.take 8).set s x) (set_by hbt hx s)
        have b2 := bw_lt (Y.take 8) hbt
        rw [List.length_set, hl] at b1
        rw [hl] at b2
        rw [u64_wrap b1, u64_wrap b2] at h1
        refine bw_set hl hbt h8 hx ?_ h1
        rw [show (Y.take 8).getD s 0 = Y.getD s 0 by simp [List.getD_eq_getElem?_getD, List.getElem?_take, h8]]
        exact hne
    · obtain ⟨v, h1, h2, h3⟩ := nums_set n (Y.drop 8) (s - 8) x (by omega) (by rw [List.length_drop]; omega) (drop_by hb 8) hx (by
        rw [show (Y.drop 8).getD (s - 8) 0 = Y.getD s 0 by simp only [List.getD_eq_getElem?_getD, List.getElem?_drop]; rw [show 8 + (s - 8) = s by omega]]
        exact hne)
      have hq : s / 8 = (s - 8) / 8 + 1 := by omega
      refine ⟨v, h1, ?_, ?_⟩
      · simp only [nums]
        rw [List.take_set_of_le (by omega), List.drop_set, if_neg (by omega), h2, hq, List.set_cons_succ]
      · rw [hq]
        simp only [nums, List.getD_cons_succ]
        exact h3
theorem dec_set {key : Nat} (hk : key < 2 ^ 64) {r : List Int} (hr : r.length ≤ 64) (hi : ∀ x ∈ r, I64 x) {X : List Int} (hX : ∀ x ∈ X, BY x) {p : Nat} (hp : p < (enc key r).length) {x : Int} (hx : BY x) (hne : x ≠ (enc key r ++ X).getD p 0) : dec key ((enc key r ++ X).set p x) = none := by
  have hl := enc_len key r
  have hb := app_by (enc_by key r) hX
  have e1 : enc key r ++ X = wb r.length ++ (wb (wordsN [(r.length : Int)]) ++ (wbs (r.map u64) ++ (wb (tagN key r) ++ X))) := by
    unfold enc
    rw [wbs_cons, wbs_one, wbs_one]
    simp only [List.append_assoc]
  have t0 : (enc key r ++ X).take 8 = wb r.length := by rw [e1, take_wb]
  have t1 : ((enc key r ++ X).drop 8).take 8 = wb (wordsN [(r.length : Int)]) := by rw [e1, drop_wb, take_wb]
  have t2 : (enc key r ++ X).drop 16 = wbs (r.map u64) ++ (wb (tagN key r) ++ X) := by rw [show (16 : Nat) = 8 + 8 from rfl, ← List.drop_drop, e1, drop_wb, drop_wb]
  have t3 : (wbs (r.map u64) ++ (wb (tagN key r) ++ X)).drop (8 * r.length) = wb (tagN key r) ++ X := by
    have := drop_wbs (r.map u64) (wb (tagN key r) ++ X)
    rwa [List.length_map] at this
  have hW : I64 (r.length : Int) := ⟨by omega, by omega⟩
  have hr64 : r.length < 2 ^ 64 := Nat.lt_of_le_of_lt hr (by decide)
  generalize hZ : enc key r ++ X = Z at *
  have hZl : 8 * r.length + 24 ≤ Z.length := by rw [← hZ, List.length_append]; omega
  have e5 : wrap64 ((bw (wb r.length) : Nat) : Int) = (r.length : Int) := by rw [bw_wb hr64]; exact w64 (by omega) (by omega)
  unfold dec
  rw [List.length_set, if_neg (by omega)]
  split
  · rfl
  split
  · rfl
  split
  · rfl
  rename_i c1 c2 c3
  have c2' : bw (((Z.set p x).drop 8).take 8) = wordsN [wrap64 ((bw ((Z.set p x).take 8) : Nat) : Int)] := Classical.byContradiction fun e => c2 e
  refine if_neg ?_
  intro c4
  by_cases p8 : p < 8
  · rw [List.drop_set_of_lt p8, t1, bw_wb (wordsN_lt _)] at c2'
    have h1 := wordsN_one hW (wrap64_I _) c2'
    rw [List.take_set, t0] at h1
    have b1 := bw_lt ((wb r.length).set p x) (set_by (wb_by _) hx p)
    rw [List.length_set, wb_len] at b1
    have h2 := congrArg u64 h1
    rw [u64_wrap b1, u64_nat (n := r.length) hr64] at h2
    refine bw_set (wb_len r.length) (wb_by _) p8 hx ?_ (by rw [← h2, bw_wb hr64])
    rw [← t0, show (Z.take 8).getD p 0 = Z.getD p 0 by simp [List.getD_eq_getElem?_getD, List.getElem?_take, p8]]
    exact hne
  · have z0 : (Z.set p x).take 8 = wb r.length := by rw [List.take_set_of_le (by omega), t0]
    rw [z0, e5] at c2' c4
    rw [Int.toNat_natCast] at c4
    by_cases p16 : p < 16
    · rw [List.drop_set, if_neg (by omega), List.take_set, t1] at c2'
      refine bw_set (wb_len _) (wb_by _) (show p - 8 < 8 by omega) hx ?_ (c2'.trans (bw_wb (wordsN_lt _)).symm)
      rw [← t1, show ((Z.drop 8).take 8).getD (p - 8) 0 = Z.getD p 0 by
        simp only [List.getD_eq_getElem?_getD, List.getElem?_take, List.getElem?_drop]
        rw [if_pos (by omega), show 8 + (p - 8) = p by omega]]
      exact hne
    · rw [List.drop_set (l := Z), if_neg (by omega), t2] at c4
      have hgs : (wbs (r.map u64) ++ (wb (tagN key r) ++ X)).getD (p - 16) 0 = Z.getD p 0 := by
        rw [← t2]
        simp only [List.getD_eq_getElem?_getD, List.getElem?_drop]
        rw [show 16 + (p - 16) = p by omega]
      have hYb : ∀ y ∈ wbs (r.map u64) ++ (wb (tagN key r) ++ X), BY y := by rw [← t2]; exact drop_by hb 16
      have hYl : 8 * r.length ≤ (wbs (r.map u64) ++ (wb (tagN key r) ++ X)).length := by rw [List.length_append, wbs_len, List.length_map]; omega
      have hnum := nums_wbs r (wb (tagN key r) ++ X) hi
      by_cases pn : p - 16 < 8 * r.length
      · obtain ⟨v, v1, v2, v3⟩ := nums_set r.length _ (p - 16) x pn hYl hYb hx (by rw [hgs]; exact hne)
        rw [v2, hnum, List.drop_set_of_lt pn, t3, take_wb, bw_wb (tagN_lt _ _)] at c4
        rw [hnum] at v3
        exact v3 (wordsN_set (l := r) (i := (p - 16) / 8) (v := v) (by omega) hi v1 (tagN_inj hk c4).symm).symm
      · rw [nums_same _ _ _ _ (by omega), hnum, List.drop_set, if_neg (by omega), t3, List.take_set, take_wb] at c4
        refine bw_set (wb_len _) (wb_by _) (show p - 16 - 8 * r.length < 8 by omega) hx ?_ (c4.trans (bw_wb (tagN_lt _ _)).symm)
        have h6 : (wb (tagN key r)).getD (p - 16 - 8 * r.length) 0 = ((wbs (r.map u64) ++ (wb (tagN key r) ++ X)).drop (8 * r.length)).getD (p - 16 - 8 * r.length) 0 := by
          rw [t3]
          simp only [List.getD_eq_getElem?_getD]
          rw [List.getElem?_append_left (by rw [wb_len]; omega)]
        have h7 : (wb (tagN key r)).getD (p - 16 - 8 * r.length) 0 = Z.getD p 0 := by
          rw [h6, ← hgs]
          simp only [List.getD_eq_getElem?_getD, List.getElem?_drop]
          rw [show 8 * r.length + (p - 16 - 8 * r.length) = p - 16 by omega]
        rw [h7]
        exact hne
end Go.Proofs.YtcanekmlabehgaaQ
