/- Journals that were cut off: what is left of the records. -/
import Derived.Test.YtcanekmlabehgaaQJf
namespace Go.Proofs.YtcanekmlabehgaaQ
set_option linter.unusedVariables false
set_option linter.unusedSimpArgs false
open Go.RowKit Go.Proofs.Ytcanekmlabehgaa.P46 Go.Proofs.YtcanekmlabehgaaW.PrintWords Go.Proofs.YtcanekmlabehgaaW.PrintLast Go.Proofs.YtcanekmlabehgaaW.PrintMore
theorem dec_part {key : Nat} {r : List Int} (hr : r.length ≤ 64) (X : List Int) {p : Nat} (hp : p < (enc key r).length) : dec key ((enc key r ++ X).take p) = none := by
  have hl := enc_len key r
  by_cases h16 : p < 16
  · exact dec_short (by rw [List.length_take]; omega)
  have e1 : enc key r ++ X = wb r.length ++ (wb (wordsN [(r.length : Int)]) ++ (wbs (r.map u64) ++ (wb (tagN key r) ++ X))) := by
    unfold enc
    rw [wbs_cons, wbs_one, wbs_one]
    simp only [List.append_assoc]
  have e2 : ((enc key r ++ X).take p).take 8 = wb r.length := by rw [List.take_take, Nat.min_eq_left (by omega), e1, take_wb]
  have e3 : (((enc key r ++ X).take p).drop 8).take 8 = wb (wordsN [(r.length : Int)]) := by
    rw [List.drop_take, List.take_take, Nat.min_eq_left (by omega), e1, drop_wb, take_wb]
  have e5 : wrap64 ((bw (wb r.length) : Nat) : Int) = (r.length : Int) := by rw [bw_wb (by omega)]; exact w64 (by omega) (by omega)
  unfold dec
  rw [e2, e5, e3, bw_wb (wordsN_lt _), Int.toNat_natCast]
  rw [if_neg (by rw [List.length_take, List.length_append]; omega), if_neg (by omega), if_neg (by simp), if_pos (by rw [List.length_drop, List.length_take, List.length_append]; omega)]
theorem jn_split (l : List (List Int)) (k : Nat) : jn 0 l = jn 0 (l.take k) ++ jn (lk 0 (l.take k)) (l.drop k) := by
  have := jn_app (l.take k) (l.drop k) 0
  rwa [List.take_append_drop] at this
theorem jl_split (l : List (List Int)) (k : Nat) : jl l = jl (l.take k) + jl (l.drop k) := by
  have := jl_app (l.take k) (l.drop k)
  rwa [List.take_append_drop] at this
/-- The first n bytes of a journal: k records, and a part of the next one. -/
theorem jn_cut {l : List (List Int)} (hf : Fit l) {k n : Nat} (hk : k ≤ l.length) (h0 : jl (l.take k) ≤ n) (hn : n ≤ jl l) (h1 : k < l.length → n < jl (l.take (k + 1))) :
    ∃ t, (jn 0 l).take n = jn 0 (l.take k) ++ t ∧ t.length = n - jl (l.take k) ∧ dec (lk 0 (l.take k)) t = none ∧ ∀ x ∈ t, BY x := by
  have hs := jl_split l k
  refine ⟨(jn (lk 0 (l.take k)) (l.drop k)).take (n - jl (l.take k)), ?_, ?_, ?_, take_by (jn_by _ _) _⟩
  · rw [jn_split l k, List.take_append, jn_len, List.take_of_length_le (by rw [jn_len]; exact h0)]
  · rw [List.length_take, jn_len]; omega
  · by_cases hkl : k < l.length
    · have h2 := h1 hkl
      rw [take_succ46 hkl, jl_app] at h2
      simp only [jl] at h2
      have hm := hf _ (getD_mem (d := []) hkl)
      rw [List.drop_eq_getElem_cons hkl, show l[k] = l.getD k [] by simp [List.getD, hkl]]
      exact dec_part hm.1 _ (by rw [enc_len]; omega)
    · rw [List.drop_of_length_le (by omega)]
      exact dec_short (by simp [jn])
end Go.Proofs.YtcanekmlabehgaaQ
