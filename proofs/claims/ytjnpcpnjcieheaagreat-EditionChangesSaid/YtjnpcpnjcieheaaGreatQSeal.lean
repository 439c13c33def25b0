/- What the functions of seal compute on lists of digests: roots, paths, and which openings are accepted. -/
import Derived.Test.YtjnpcpnjcieheaaGreatS47A
import Derived.Test.YtjnpcpnjcieheaaGreatQTree
import Derived.Lib.ItoaNum
namespace Go.Proofs.YtjnpcpnjcieheaaGreatQ
set_option linter.unusedVariables false
set_option linter.unusedSimpArgs false
open Go.RowKit Go.Proofs.YtjnpcpnjcieheaaGreat.P47 Go.Proofs.YtjnpcpnjcieheaaGreatW.PrintWords Go.Proofs.YtjnpcpnjcieheaaGreatW.PrintLast Go.Proofs.YtjnpcpnjcieheaaGreatW.PrintMore
theorem evT {α : Type} {c : Prop} [Decidable c] {f g : Nat → Option α} {r : α} (h : c) (k : Ev f r) : Ev (fun n => if c then f n else g n) r := Ev.congr (fun n => if_pos h) k
theorem evF {α : Type} {c : Prop} [Decidable c] {f g : Nat → Option α} {r : α} (h : ¬ c) (k : Ev g r) : Ev (fun n => if c then f n else g n) r := Ev.congr (fun n => if_neg h) k
theorem half_f {n : Nat} (h2 : 2 ≤ n) (hn : n ≤ 65536) : seal_half.f (n : Int) = some ((halfN n : Nat) : Int) := by
  obtain ⟨m, rfl⟩ : ∃ m, n = m + 1 := ⟨n - 1, by omega⟩
  obtain ⟨hb1, hb2, hb3⟩ := Lib.bitLenAux_bounds 64 m (by omega) (by omega)
  have hl : Lib.bitLen m = m.log2 + 1 := by
    have h1 : m.log2 = Lib.bitLenAux 64 m - 1 := (Nat.log2_eq_iff (by omega)).2 ⟨hb2, by rw [Nat.sub_add_cancel hb1]; exact hb3⟩
    rw [h1, Nat.sub_add_cancel hb1]; rfl
  have h16 : m.log2 < 16 := (Nat.log2_lt (by omega)).2 (by omega)
  have hp : 2 ^ m.log2 < 2 ^ 16 := Nat.pow_lt_pow_right (by decide) h16
  unfold seal_half.f bits_Len.f
  rw [w64 (x := ((m + 1 : Nat) : Int) - 1) (by omega) (by omega), wu64 (by omega) (by omega), if_pos (by omega), if_pos (by omega)]
  simp only [Option.bind_some]
  rw [show (((m + 1 : Nat) : Int) - 1).toNat = m by omega, hl, w64 (by omega) (by omega), if_pos (by omega)]
  unfold shl
  rw [show (((m.log2 + 1 : Nat) : Int) - 1).toNat = m.log2 by omega, Nat.min_eq_left (show m.log2 ≤ IntKind.i64.bits from Nat.le_trans (Nat.le_of_lt h16) (by decide)), Int.one_mul]
  unfold halfN
  rw [IntKind.wrap_i64, show ((2 : Int) ^ m.log2) = ((2 ^ m.log2 : Nat) : Int) by simp, show m + 1 - 1 = m from rfl]
  generalize 2 ^ m.log2 = z at *
  refine congrArg some ?_
  omega
theorem join_f {a b : Int} (ha : U a) (hb : U b) : seal_Join.f a b = some (jn a b) := by
  obtain ⟨A, rfl, hA⟩ := ha.nat
  obtain ⟨B, rfl, hB⟩ := hb.nat
  unfold seal_Join.f jn
  rw [show (1785686382 : Int) = ((1785686382 : Nat) : Int) from rfl, dstep_f (by decide) hA]
  simp only [Option.bind_some, Int.toNat_natCast]
  rw [dstep_f (stepN_lt _ _) hB]; rfl
theorem take_U {l : List Int} (h : ∀ x ∈ l, U x) (k : Nat) : ∀ x ∈ l.take k, U x := fun x hx => h x (List.mem_of_mem_take hx)
theorem drop_U {l : List Int} (h : ∀ x ∈ l, U x) (k : Nat) : ∀ x ∈ l.drop k, U x := fun x hx => h x (List.mem_of_mem_drop hx)
theorem U0 : U 0 := ⟨by decide, by decide⟩
theorem root_f : ∀ (n : Nat) (l : List Int), l.length = n → 1 ≤ n → n ≤ 65536 → (∀ x ∈ l, U x) → Ev (fun k => seal_Root.f k l) (root 0 l) := by
  intro n
  induction n using Nat.strongRecOn with
  | ind n ih =>
    intro l hn h1 hm hl
    refine Ev.step (fun k => by rw [seal_Root.f]) ?_
    simp only [hn]
    refine evF (by omega) ?_
    by_cases h : n ≤ 1
    · obtain rfl : n = 1 := by omega
      match l, hn with
      | [a], _ => rw [root_one]; exact evT (by omega) (evT (by omega) (Ev.now _))
    · have h2 := halfN_lt (n := n) (by omega)
      have h3 := halfN_pos n
      refine evF (by omega) ?_
      rw [half_f (by omega) hm, root_big hn h]
      simp only [Option.bind_some, Int.toNat_natCast]
      refine evT (by omega) (evT (by omega) ?_)
      refine Ev.bind (ih (halfN n) (by omega) _ (by simp; omega) (by omega) (by omega) (take_U hl _)) ?_
      refine Ev.bind (ih (n - halfN n) (by omega) _ (by simp; omega) (by omega) (by omega) (drop_U hl _)) ?_
      rw [join_f (root_U 0 U0 _ _ rfl (take_U hl _)) (root_U 0 U0 _ _ rfl (drop_U hl _))]
      exact Ev.now _
theorem path_le (e : Int) : ∀ (n : Nat) (l : List Int), l.length = n → 1 ≤ n → ∀ i, (path e l i).length + 1 ≤ n := by
  intro n
  induction n using Nat.strongRecOn with
  | ind n ih =>
    intro l hn h1 i
    rw [path, hn]
    split
    · simp; omega
    · have h2 := halfN_lt (n := n) (by omega)
      have h3 := halfN_pos n
      split
      · have := ih (halfN n) (by omega) (l.take (halfN n)) (by simp; omega) (by omega) i
        simp; omega
      · have := ih (n - halfN n) (by omega) (l.drop (halfN n)) (by simp; omega) (by omega) (i - halfN n)
        simp; omega
theorem down_f : ∀ (n : Nat) (l : List Int) (i : Nat) (P : List Int), l.length = n → i < n → n ≤ 65536 → P.length + n ≤ 1000000 → (∀ x ∈ l, U x) → Ev (fun k => seal_Open.down k l (i : Int) P) (P ++ path 0 l i) := by
  intro n
  induction n using Nat.strongRecOn with
  | ind n ih =>
    intro l i P hn hi hm hP hl
    refine Ev.step (fun k => by rw [seal_Open.down]) ?_
    simp only [hn]
    by_cases h : n ≤ 1
    · obtain rfl : n = 1 := by omega
      rw [path_one (by omega), List.append_nil]
      exact evT rfl (Ev.now _)
    · have h2 := halfN_lt (n := n) (by omega)
      have h3 := halfN_pos n
      refine evF (by omega) ?_
      rw [half_f (by omega) hm]
      simp only [Option.bind_some, Int.toNat_natCast]
      refine evT (by omega) (evT (by omega) ?_)
      have hp1 := path_le 0 (halfN n) (l.take (halfN n)) (by simp; omega) (by omega) i
      have hp2 := path_le 0 (n - halfN n) (l.drop (halfN n)) (by simp; omega) (by omega) (i - halfN n)
      by_cases hk : i < halfN n
      · rw [path_l hn h hk]
        refine evT (by omega) ?_
        refine Ev.bind (ih (halfN n) (by omega) (l.take (halfN n)) i P (by simp; omega) hk (by omega) (by omega) (take_U hl _)) ?_
        refine Ev.bind (root_f (n - halfN n) (l.drop (halfN n)) (by simp; omega) (by omega) (by omega) (drop_U hl _)) ?_
        rw [← List.append_assoc]
        exact evT (by simp; omega) (Ev.now _)
      · rw [path_r hn h hk]
        refine evF (by omega) ?_
        rw [show (i : Int) - (halfN n : Nat) = ((i - halfN n : Nat) : Int) by omega, w64 (x := ((i - halfN n : Nat) : Int)) (by omega) (by omega)]
        refine Ev.bind (ih (n - halfN n) (by omega) (l.drop (halfN n)) (i - halfN n) P (by simp; omega) (by omega) (by omega) (by omega) (drop_U hl _)) ?_
        refine Ev.bind (root_f (halfN n) (l.take (halfN n)) (by simp; omega) (by omega) (by omega) (take_U hl _)) ?_
        rw [← List.append_assoc]
        exact evT (by simp; omega) (Ev.now _)
theorem open_f {l : List Int} {i : Nat} (hi : i < l.length) (hm : l.length ≤ 65536) (hl : ∀ x ∈ l, U x) : Ev (fun k => seal_Open.f k l (i : Int)) (path 0 l i, 0) := by
  unfold seal_Open.f
  refine evF (by omega) (evF (by omega) (Ev.bind (down_f l.length l i [] rfl hi hm (by simp; omega) hl) ?_))
  simp only [List.nil_append]
  exact Ev.now _
theorem sides_le : ∀ (n : Nat), 1 ≤ n → ∀ i, (sides n i).length + 1 ≤ n := by
  intro n
  induction n using Nat.strongRecOn with
  | ind n ih =>
    intro h1 i
    rw [sides]
    split
    · simp; omega
    · have h2 := halfN_lt (n := n) (by omega)
      have h3 := halfN_pos n
      split
      · have := ih (halfN n) (by omega) (by omega) i
        simp; omega
      · have := ih (n - halfN n) (by omega) (by omega) (i - halfN n)
        simp; omega
end Go.Proofs.YtjnpcpnjcieheaaGreatQ
