/- Journals: what reading, putting and making a journal tell of the journal of some records, with whatever follows it. -/
import Derived.Test.YtcanekmlabehgaaQJd
namespace Go.Proofs.YtcanekmlabehgaaQ
set_option linter.unusedVariables false
set_option linter.unusedSimpArgs false
open Go.RowKit Go.Proofs.Ytcanekmlabehgaa.P46 Go.Proofs.YtcanekmlabehgaaW.PrintWords Go.Proofs.YtcanekmlabehgaaW.PrintLast Go.Proofs.YtcanekmlabehgaaW.PrintMore
theorem jn_ge : ∀ (l : List (List Int)) (key : Nat), 24 * l.length ≤ (jn key l).length
  | [], key => by simp [jn]
  | r :: l, key => by
    have := jn_ge l (tagN key r)
    rw [show jn key (r :: l) = enc key r ++ jn (tagN key r) l from rfl, List.length_append, enc_len, List.length_cons]
    omega
theorem app_by {a b : List Int} (ha : ∀ x ∈ a, BY x) (hb : ∀ x ∈ b, BY x) : ∀ x ∈ a ++ b, BY x := fun x hx => (List.mem_append.1 hx).elim (ha x) (hb x)
theorem loop_jn {l : List (List Int)} {t : List Int} (hf : Fit l) (ht : dec (lk 0 l) t = none) (hb : ∀ x ∈ t, BY x) (hl : (jn 0 l ++ t).length ≤ 100000) : Ev (fun k => journal_Read.loop k 0 (jn 0 l ++ t) []) (l, t) := by
  have h := read_loop (jn 0 l ++ t).length 0 (jn 0 l ++ t) [] (Nat.le_refl _) (by decide) (app_by (jn_by l 0) hb) (by omega) (by simp only [List.length_nil]; omega)
  rw [par_jn l _ 0 t (by have := jn_ge l 0; rw [List.length_append]; omega) hf ht, List.nil_append] at h
  exact h
theorem clone_f {l : List Int} (h : l.length ≤ 100000) : slices_Clone_byte_byte.f l = some l := by unfold slices_Clone_byte_byte.f; rw [if_pos (by omega)]
theorem Read_jn {l : List (List Int)} {t : List Int} (hf : Fit l) (ht : dec (lk 0 l) t = none) (hb : ∀ x ∈ t, BY x) (hl : (jn 0 l ++ t).length ≤ 100000) : Ev (fun k => journal_Read.f k (jn 0 l ++ t)) (l, t, if t = [] then 0 else 460) := by
  unfold journal_Read.f
  refine Ev.bind (loop_jn hf ht hb hl) ?_
  rw [List.length_append] at hl
  cases t with
  | nil => exact evJF (by simp) (Ev.now _)
  | cons a t =>
    refine evJT (by simp only [List.length_cons]; omega) ?_
    show Ev (fun k => (slices_Clone_byte_byte.f (a :: t)).bind fun c => some (l, c, 460)) _
    rw [clone_f (by omega), if_neg (by simp)]
    exact Ev.now _
theorem read_jn {l : List (List Int)} {t : List Int} (hf : Fit l) (ht : dec (lk 0 l) t = none) (hb : ∀ x ∈ t, BY x) (hl : (jn 0 l ++ t).length ≤ 100000) : Ev (fun k => plexuslaw46_read.f k (jn 0 l ++ t)) (l, t, if t = [] then 0 else 460) := by
  unfold plexuslaw46_read.f
  exact Ev.bind (Read_jn hf ht hb hl) (Ev.now _)
theorem whole_jn {l : List (List Int)} {t : List Int} (hf : Fit l) (ht : dec (lk 0 l) t = none) (hb : ∀ x ∈ t, BY x) (hl : (jn 0 l ++ t).length ≤ 100000) : Ev (fun k => journal_Whole.f k (jn 0 l ++ t)) (jn 0 l) := by
  unfold journal_Whole.f
  refine Ev.bind (loop_jn hf ht hb hl) ?_
  rw [List.length_append] at hl
  refine evJT (by rw [List.length_append]; show t.length ≤ _; omega) ?_
  show Ev (fun k => (slices_Clone_byte_byte.f ((jn 0 l ++ t).take ((jn 0 l ++ t).length - t.length))).bind fun c => some c) _
  rw [List.length_append, Nat.add_sub_cancel, List.take_left, clone_f (by omega)]
  exact Ev.now _
theorem lk_drop {l : List (List Int)} (h : l ≠ []) : (jn 0 l).drop ((jn 0 l).length - 8) = wb (lk 0 l) := by
  rcases List.eq_nil_or_concat l with h1 | ⟨m, r, h1⟩
  · exact absurd h1 h
  · rw [List.concat_eq_append] at h1
    subst h1
    rw [jn_app, lk_app]
    rw [show jn (lk 0 m) [r] = enc (lk 0 m) r ++ [] from rfl, List.append_nil, show lk (lk 0 m) [r] = tagN (lk 0 m) r from rfl]
    unfold enc
    rw [wbs_one, ← List.append_assoc, ← List.append_assoc]
    refine List.drop_left' ?_
    simp only [List.length_append, wb_len]
    omega
theorem enc_put {key : Nat} (hk : key < 2 ^ 64) {j r : List Int} (hr : r.length ≤ 64) (hj : j.length + 8 * (r.length + 3) ≤ 65536) : Ev (fun k => journal_Put.j0 k j r (key : Int)) (j ++ enc key r, 0) := by
  refine Ev.step (fun k => by rw [journal_Put.j0]) ?_
  have hw : wrap64 ((j.length : Int) + wrap64 (8 * wrap64 ((r.length : Int) + 3))) = ((j.length + 8 * (r.length + 3) : Nat) : Int) := by
    rw [w64 (x := (r.length : Int) + 3) (by omega) (by omega), w64 (x := 8 * ((r.length : Int) + 3)) (by omega) (by omega), w64 (by omega) (by omega)]
    omega
  refine evJF (by rw [hw]; omega) ?_
  rw [clone_f (by omega), words46]
  simp only [Option.bind_some]
  have h1 := add_f [r.length, wordsN [(r.length : Int)]] (by simp) j (by omega)
  rw [wu64 (x := (r.length : Int)) (by omega) (by omega)]
  refine Ev.bind h1 ?_
  refine Ev.bind (addi_f r (by omega) _ (by rw [List.length_append, wbs_len]; simp only [List.length_cons, List.length_nil]; omega)) ?_
  rw [tag46 hk]
  simp only [Option.bind_some]
  have h2 := add_f [tagN key r] (by simp) (j ++ wbs [r.length, wordsN [(r.length : Int)]] ++ wbs (r.map u64)) (by simp only [List.length_append, wbs_len, List.length_map, List.length_cons, List.length_nil]; omega)
  refine Ev.bind h2 ?_
  unfold enc
  simp only [List.append_assoc]
  exact Ev.now _
theorem dec_nil (key : Nat) : dec key [] = none := dec_short (by simp)
theorem Put_jn {l : List (List Int)} {r : List Int} (hf : Fit l) (hr : r.length ≤ 64) (hl : (jn 0 l).length + 8 * (r.length + 3) ≤ 65536) : Ev (fun k => journal_Put.f k (jn 0 l) r) (jn 0 (l ++ [r]), 0) := by
  unfold journal_Put.f
  refine evJF (by omega) ?_
  have h0 := Read_jn (t := []) hf (dec_nil _) (by simp) (by rw [List.append_nil]; omega)
  rw [List.append_nil, if_pos rfl] at h0
  refine Ev.bind h0 (evJT rfl ?_)
  have he : jn 0 (l ++ [r]) = jn 0 l ++ enc (lk 0 l) r := by rw [jn_app]; simp [jn]
  have hk := lk_lt l 0 (by decide)
  rw [he]
  by_cases hn : l = []
  · subst hn
    exact evJF (by simp [jn]) (enc_put (by decide) hr hl)
  · have hg := jn_ge l 0
    have hp : 0 < l.length := List.length_pos_iff.2 hn
    refine evJT (by omega) ?_
    rw [w64 (x := ((jn 0 l).length : Int) - 8) (by omega) (by omega)]
    refine evJT (by omega) (evJT (by omega) ?_)
    rw [show (((jn 0 l).length : Int) - 8).toNat = (jn 0 l).length - 8 by omega, lk_drop hn]
    have h1 := take_f (j := wb (lk 0 l)) (by rw [wb_len]; omega) (wb_by _)
    rw [List.take_of_length_le (by rw [wb_len]; omega), bw_wb hk] at h1
    exact Ev.bind h1 (enc_put hk hr hl)
theorem put_jn {l : List (List Int)} {r : List Int} (hf : Fit l) (hr : r.length ≤ 64) (hl : (jn 0 l).length + 8 * (r.length + 3) ≤ 65536) : Ev (fun k => plexuslaw46_put.f k (jn 0 l) r) (jn 0 (l ++ [r])) := by
  unfold plexuslaw46_put.f
  exact Ev.bind (Put_jn hf hr hl) (evJT rfl (Ev.now _))
theorem Put_torn {l : List (List Int)} {t r : List Int} (hf : Fit l) (ht : dec (lk 0 l) t = none) (hb : ∀ x ∈ t, BY x) (hl : (jn 0 l ++ t).length ≤ 100000) (hn : t ≠ []) (hr : r.length ≤ 64) : Ev (fun k => journal_Put.f k (jn 0 l ++ t) r) ([], 460) := by
  unfold journal_Put.f
  refine evJF (by omega) ?_
  have h0 := Read_jn hf ht hb hl
  rw [if_neg hn] at h0
  exact Ev.bind h0 (evJF (by show ¬ ((460 : Int) = 0); decide) (Ev.now _))
theorem Put_long {j r : List Int} (hr : 64 < r.length) : Ev (fun k => journal_Put.f k j r) ([], 1) := by
  unfold journal_Put.f
  exact evJT (by omega) (Ev.now _)
end Go.Proofs.YtcanekmlabehgaaQ
