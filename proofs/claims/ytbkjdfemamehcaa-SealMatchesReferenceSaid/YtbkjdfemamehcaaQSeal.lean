/- What the functions of seal compute on lists of digests: roots, paths, and which openings are accepted. -/
import Derived.Test.YtbkjdfemamehcaaS03B
import Derived.Test.YtbkjdfemamehcaaQTree
import Derived.Lib.ItoaNum
namespace Go.Proofs.YtbkjdfemamehcaaQ
set_option linter.unusedVariables false
set_option linter.unusedSimpArgs false
open Go.RowKit Go.Proofs.Ytbkjdfemamehcaa.P03 Go.Proofs.YtbkjdfemamehcaaW.PrintWords Go.Proofs.YtbkjdfemamehcaaW.PrintLast Go.Proofs.YtbkjdfemamehcaaW.PrintMore
theorem evT {α : Type} {c : Prop} [Decidable c] {f g : Nat → Option α} {r : α} (h : c) (k : Ev f r) : Ev (fun n => if c then f n else g n) r := Ev.congr (fun n => if_pos h) k
theorem evF {α : Type} {c : Prop} [Decidable c] {f g : Nat → Option α} {r : α} (h : ¬ c) (k : Ev g r) : Ev (fun n => if c then f n else g n) r := Ev.congr (fun n => if_neg h) k
theorem half_f {n : Nat} (h2 : 2 ≤ n) (hn : n ≤ 65536) : seal_half.f (n : Int) = some ((halfN n : Nat) : Int) := by
  obtain ⟨m, rfl⟩ : ∃ m, n = m + 1 := ⟨n - 1, by omega⟩
  obtain ⟨hb1, hb2, hb3⟩ := Lib.bitLenAux_bounds 64 m (by omega) (by omega)
  have hl : Lib.bitLen m = m.log2 + 1 := by
    have h1 : m.log2 = Lib.bitLenAux 64 m - 1 := (Nat.log2_eq_iff (by omega)).2 ⟨hb2, by rw [Nat.sub_add_cancel hb1]; exact hb3⟩
    rw [h1, Nat.sub_add_cancel hb1]; rfl
  have h16 : m.log2 < 16 := (Nat.log2_lt (by omega)).2 (by omega)
  have hp : 2 ^ m.log2 < 2 ^ 16 := Nat.pow_lt_pow_right (by decide) h16
  unfold seal_half.f bits_Len.f
  rw [w64 (x := ((m + 1 : Nat) : Int) - 1) (by omega) (by omega), wu64 (by omega) (by omega), if_pos (by omega), if_pos (by omega)]
  simp only [Option.bind_some]
  rw [show (((m + 1 : Nat) : Int) - 1).toNat = m by omega, hl, w64 (by omega) (by omega), if_pos (by omega)]
  unfold shl
  rw [show (((m.log2 + 1 : Nat) : Int) - 1).toNat = m.log2 by omega, Nat.min_eq_left (show m.log2 ≤ IntKind.i64.bits from Nat.le_trans (Nat.le_of_lt h16) (by decide)), Int.one_mul]
  unfold halfN
  rw [IntKind.wrap_i64, show ((2 : Int) ^ m.log2) = ((2 ^ m.log2 : Nat) : Int) by simp, show m + 1 - 1 = m from rfl]
  generalize 2 ^ m.log2 = z at *
  refine congrArg some ?_
  omega
theorem join_f {a b : Int} (ha : U a) (hb : U b) : seal_Join.f a b = some (jn a b) := by
  obtain ⟨A, rfl, hA⟩ := ha.nat
  obtain ⟨B, rfl, hB⟩ := hb.nat
  unfold seal_Join.f jn
  rw [show (1785686382 : Int) = ((1785686382 : Nat) : Int) from rfl, dstep_f (by decide) hA]
  simp only [Option.bind_some, Int.toNat_natCast]
  rw [dstep_f (stepN_lt _ _) hB]; rfl
theorem take_U {l : List Int} (h : ∀ x ∈ l, U x) (k : Nat) : ∀ x ∈ l.take k, U x := fun x hx => h x (List.mem_of_mem_take hx)
theorem drop_U {l : List Int} (h : ∀ x ∈ l, U x) (k : Nat) : ∀ x ∈ l.drop k, U x := fun x hx => h x (List.mem_of_mem_drop hx)
theorem U0 : U 0 := ⟨by decide, by decide⟩
theorem root_f : ∀ (n : Nat) (l : List Int), l.length = n → 1 ≤ n → n ≤ 65536 → (∀ x ∈ l, U x) → Ev (fun k => seal_Root.f k l) (root 0 l) := by
  intro n
  induction n using Nat.strongRecOn with
  | ind n ih =>
    intro l hn h1 hm hl
    refine Ev.step (fun k => by rw [seal_Root.f]) ?_
    simp only [hn]
    refine evF (by omega) ?_
    by_cases h : n ≤ 1
    · obtain rfl : n = 1 := by omega
      match l, hn with
      | [a], _ => rw [root_one]; exact evT (by omega) (evT (by omega) (Ev.now _))
    · have h2 := halfN_lt (n := n) (by omega)
      have h3 := halfN_pos n
      refine evF (by omega) ?_
      rw [half_f (by omega) hm, root_big hn h]
      simp only [Option.bind_some, Int.toNat_natCast]
      refine evT (by omega) (evT (by omega) ?_)
      refine Ev.bind (ih (halfN n) (by omega) _ (by simp; omega) (by omega) (by omega) (take_U hl _)) ?_
      refine Ev.bind (ih (n - halfN n) (by omega) _ (by simp; omega) (by omega) (by omega) (drop_U hl _)) ?_
      rw [join_f (root_U 0 U0 _ _ rfl (take_U hl _)) (root_U 0 U0 _ _ rfl (drop_U hl _))]
      exact Ev.now _
theorem path_le (e : Int) : ∀ (n : Nat) (l : List Int), l.length = n → 1 ≤ n → ∀ i, (path e l i).length + 1 ≤ n := by
  intro n
  induction n using Nat.strongRecOn with
  | ind n ih =>
    intro l hn h1 i
    rw [path, hn]
    split
    · simp; omega
    · have h2 := halfN_lt (n := n) (by omega)
      have h3 := halfN_pos n
      split
      · have := ih (halfN n) (by omega) (l.take (halfN n)) (by simp; omega) (by omega) i
        simp; omega
      · have := ih (n - halfN n) (by omega) (l.drop (halfN n)) (by simp; omega) (by omega) (i - halfN n)
        simp; omega
theorem down_f : ∀ (n : Nat) (l : List Int) (i : Nat) (P : List Int), l.length = n → i < n → n ≤ 65536 → P.length + n ≤ 1000000 → (∀ x ∈ l, U x) → Ev (fun k => seal_Open.down k l (i : Int) P) (P ++ path 0 l i) := by
  intro n
  induction n using Nat.strongRecOn with
  | ind n ih =>
    intro l i P hn hi hm hP hl
    refine Ev.step (fun k => by rw [seal_Open.down]) ?_
    simp only [hn]
    by_cases h : n ≤ 1
    · obtain rfl : n = 1 := by omega
      rw [path_one (by omega), List.append_nil]
      exact evT rfl (Ev.now _)
    · have h2 := halfN_lt (n := n) (by omega)
      have h3 := halfN_pos n
      refine evF (by omega) ?_
      rw [half_f (by omega) hm]
      simp only [Option.bind_some, Int.toNat_natCast]
      refine evT (by omega) (evT (by omega) ?_)
      have hp1 := path_le 0 (halfN n) (l.take (halfN n)) (by simp; omega) (by omega) i
      have hp2 := path_le 0 (n - halfN n) (l.drop (halfN n)) (by simp; omega) (by omega) (i - halfN n)
      by_cases hk : i < halfN n
      · rw [path_l hn h hk]
        refine evT (by omega) ?_
        refine Ev.bind (ih (halfN n) (by omega) (l.take (halfN n)) i P (by simp; omega) hk (by omega) (by omega) (take_U hl _)) ?_
        refine Ev.bind (root_f (n - halfN n) (l.drop (halfN n)) (by simp; omega) (by omega) (by omega) (drop_U hl _)) ?_
        rw [← List.append_assoc]
        exact evT (by simp; omega) (Ev.now _)
      · rw [path_r hn h hk]
        refine evF (by omega) ?_
        rw [show (i : Int) - (halfN n : Nat) = ((i - halfN n : Nat) : Int) by omega, w64 (x := ((i - halfN n : Nat) : Int)) (by omega) (by omega)]
        refine Ev.bind (ih (n - halfN n) (by omega) (l.drop (halfN n)) (i - halfN n) P (by simp; omega) (by omega) (by omega) (by omega) (drop_U hl _)) ?_
        refine Ev.bind (root_f (halfN n) (l.take (halfN n)) (by simp; omega) (by omega) (by omega) (take_U hl _)) ?_
        rw [← List.append_assoc]
        exact evT (by simp; omega) (Ev.now _)
theorem open_f {l : List Int} {i : Nat} (hi : i < l.length) (hm : l.length ≤ 65536) (hl : ∀ x ∈ l, U x) : Ev (fun k => seal_Open.f k l (i : Int)) (path 0 l i, 0) := by
  unfold seal_Open.f
  refine evF (by omega) (evF (by omega) (Ev.bind (down_f l.length l i [] rfl hi hm (by simp; omega) hl) ?_))
  simp only [List.nil_append]
  exact Ev.now _
theorem sides_le : ∀ (n : Nat), 1 ≤ n → ∀ i, (sides n i).length + 1 ≤ n := by
  intro n
  induction n using Nat.strongRecOn with
  | ind n ih =>
    intro h1 i
    rw [sides]
    split
    · simp; omega
    · have h2 := halfN_lt (n := n) (by omega)
      have h3 := halfN_pos n
      split
      · have := ih (halfN n) (by omega) (by omega) i
        simp; omega
      · have := ih (n - halfN n) (by omega) (by omega) (i - halfN n)
        simp; omega
theorem check_l1 (r : Int) (S : List Bool) (p : List Int) (hS : S.length = p.length) (hm : p.length ≤ 1000000) (hp : ∀ x ∈ p, U x) : ∀ (m j : Nat) (h : Int), p.length - j = m → U h →
    Ev (fun k => seal_Check.l1 k r S.reverse h p (p.length : Int) (j : Int)) (if fold h (p.drop j) (S.drop j) = r then 0 else 6)
  | 0, j, h, hj, hh => by
    refine Ev.step (fun k => by rw [seal_Check.l1]) ?_
    rw [List.drop_of_length_le (by omega), List.drop_of_length_le (l := S) (by omega)]
    simp only [fold]
    refine evF (by omega) ?_
    by_cases e : h = r
    · simp [e]; exact Ev.now _
    · simp [e]; exact Ev.now _
  | m + 1, j, h, hj, hh => by
    refine Ev.step (fun k => by rw [seal_Check.l1]) ?_
    have hjp : j < p.length := by omega
    have hjS : j < S.length := by omega
    have hx := hp _ (List.getElem_mem hjp)
    refine evT (by omega) (evT (by omega) (evT (by omega) ?_))
    rw [List.length_reverse, w64 (x := ((S.length : Nat) : Int) - 1) (by omega) (by omega), w64 (x := ((S.length : Nat) : Int) - 1 - (j : Int)) (by omega) (by omega)]
    refine evT (by omega) (evT (by omega) ?_)
    have e1 : rd p (j : Int) = p[j] := by simp [rd, hjp]
    have e2 : rdOf false S.reverse (((S.length : Nat) : Int) - 1 - (j : Int)) = S[j] := by
      unfold rdOf
      rw [show (((S.length : Nat) : Int) - 1 - (j : Int)).toNat = S.length - 1 - j by omega]
      rw [List.getD_eq_getElem?_getD, List.getElem?_reverse (by omega), show S.length - 1 - (S.length - 1 - j) = j by omega]
      simp [hjS]
    rw [e1, e2, join_f hh hx, join_f hx hh, w64 (x := (j : Int) + 1) (by omega) (by omega)]
    simp only [Option.bind_some]
    have ih := check_l1 r S p hS hm hp m (j + 1) (up h p[j] S[j]) (by omega) (up_U _ _ _)
    rw [List.drop_eq_getElem_cons hjp, List.drop_eq_getElem_cons hjS]
    simp only [fold]
    rw [show ((j + 1 : Nat) : Int) = (j : Int) + 1 by omega] at ih
    cases hb : S[j]
    · rw [hb] at ih; exact evF (by decide) ih
    · rw [hb] at ih; exact evT rfl ih
theorem check_l0 (r : Int) (p : List Int) (a b v : Int) : ∀ (n : Nat) (i : Nat) (L : List Bool), i < n → n ≤ 65536 → L.length + n ≤ 1000000 →
    Ev (fun k => if ((L ++ (sides n i).reverse).length : Int) = (p.length : Int) then seal_Check.l1 k r (L ++ (sides n i).reverse) b p (p.length : Int) 0 else some 6) v →
    Ev (fun k => seal_Check.l0 k r p L (n : Int) (i : Int) a b) v := by
  intro n
  induction n using Nat.strongRecOn with
  | ind n ih =>
    intro i L hi hm hL hv
    refine Ev.step (fun k => by rw [seal_Check.l0]) ?_
    by_cases h : n ≤ 1
    · rw [sides_one h] at hv
      refine evF (by omega) ?_
      simpa using hv
    · have h2 := halfN_lt (n := n) (by omega)
      have h3 := halfN_pos n
      refine evT (by omega) ?_
      rw [half_f (by omega) hm]
      simp only [Option.bind_some]
      refine evT (by omega) ?_
      by_cases hk : i < halfN n
      · refine evT (by omega) ?_
        rw [show decide ((i : Int) < ((halfN n : Nat) : Int)) = true by simp; omega]
        rw [sides_l h hk] at hv
        refine ih (halfN n) (by omega) i (L ++ [true]) hk (by omega) (by simp; omega) ?_
        simpa [List.append_assoc] using hv
      · refine evF (by omega) ?_
        rw [show decide ((i : Int) < ((halfN n : Nat) : Int)) = false by simp; omega]
        rw [sides_r h hk] at hv
        rw [w64 (x := (n : Int) - _) (by omega) (by omega), w64 (x := (i : Int) - _) (by omega) (by omega), show (n : Int) - (halfN n : Nat) = ((n - halfN n : Nat) : Int) by omega, show (i : Int) - (halfN n : Nat) = ((i - halfN n : Nat) : Int) by omega]
        refine ih (n - halfN n) (by omega) (i - halfN n) (L ++ [false]) (by omega) (by omega) (by simp; omega) ?_
        simpa [List.append_assoc] using hv
theorem check_f {r leaf : Int} {n i : Nat} {p : List Int} (hi : i < n) (hn : n ≤ 4096) (hp : ∀ x ∈ p, U x) (hl : U leaf) :
    Ev (fun k => seal_Check.f k r (n : Int) (i : Int) leaf p) (if (sides n i).length = p.length then (if fold leaf p (sides n i) = r then 0 else 6) else 6) := by
  unfold seal_Check.f
  refine evF (by omega) (evF (by omega) ?_)
  refine Ev.step (fun k => by rw [seal_Check.j0]) ?_
  refine evF (by simp; omega) ?_
  refine check_l0 r p _ leaf _ n i [] hi (by omega) (by simp; omega) ?_
  simp only [List.nil_append, List.length_reverse]
  by_cases e : (sides n i).length = p.length
  · rw [if_pos e]
    simp only [e, if_true]
    have := sides_le n (by omega) i
    have h1 := check_l1 r (sides n i) p e (by omega) hp p.length 0 leaf rfl hl
    simpa using h1
  · rw [if_neg e]
    have e2 : ¬ (((sides n i).length : Int) = (p.length : Int)) := by omega
    simp only [e2, if_false]
    exact Ev.now _
end Go.Proofs.YtbkjdfemamehcaaQ
