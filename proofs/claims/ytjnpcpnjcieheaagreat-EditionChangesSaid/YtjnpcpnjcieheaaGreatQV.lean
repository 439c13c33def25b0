/- Loops of printed texts: rounds and fuel, both large. -/
import Derived.Test.YtjnpcpnjcieheaaGreatWMore
import Derived.Test.YtjnpcpnjcieheaaGreatVB
namespace Go.Proofs.YtjnpcpnjcieheaaGreatQ
set_option linter.unusedVariables false
open Go.RowKit Go.Proofs.YtjnpcpnjcieheaaGreatW.PrintWords Go.Proofs.YtjnpcpnjcieheaaGreatW.PrintLast Go.Proofs.YtjnpcpnjcieheaaGreatW.PrintMore
def Ev2 {α : Type} (g : Nat → Nat → Option α) (r : α) : Prop := ∃ K, ∀ n k, K ≤ n → K ≤ k → g n k = some r
theorem Ev2.of {α : Type} {g : Nat → Option α} {r : α} (h : Ev g r) : Ev2 (fun _ k => g k) r := by
  obtain ⟨K, h⟩ := h
  exact ⟨K, fun n k _ hk => h k hk⟩
theorem Ev2.now {α : Type} (r : α) : Ev2 (fun _ _ => some r) r := ⟨0, fun _ _ _ _ => rfl⟩
theorem Ev2.diag {α : Type} {g : Nat → Nat → Option α} {r : α} (h : Ev2 g r) : Ev (fun k => g k k) r := by
  obtain ⟨K, h⟩ := h
  exact ⟨K, fun k hk => h k k hk hk⟩
theorem Ev2.step {α : Type} {g f : Nat → Nat → Option α} {r : α} (h : ∀ n k, g (n + 1) k = f n k) (q : Ev2 f r) : Ev2 g r := by
  obtain ⟨K, q⟩ := q
  refine ⟨K + 1, fun n k hn hk => ?_⟩
  obtain ⟨m, rfl⟩ : ∃ m, n = m + 1 := ⟨n - 1, by omega⟩
  rw [h]
  exact q m k (by omega) (by omega)
theorem Ev2.congr {α : Type} {g f : Nat → Nat → Option α} {r : α} (h : ∀ n k, g n k = f n k) (q : Ev2 f r) : Ev2 g r := by
  obtain ⟨K, q⟩ := q
  exact ⟨K, fun n k hn hk => by rw [h]; exact q n k hn hk⟩
theorem Ev2.bind {α β : Type} {g : Nat → Option α} {f : Nat → Nat → α → Option β} {a : α} {r : β} (h : Ev g a) (q : Ev2 (fun n k => f n k a) r) : Ev2 (fun n k => (g k).bind (f n k)) r := by
  obtain ⟨K, h⟩ := h
  obtain ⟨L, q⟩ := q
  refine ⟨K + L, fun n k hn hk => ?_⟩
  show (g k).bind (f n k) = some r
  rw [h k (by omega), Option.bind_some]
  exact q n k (by omega) (by omega)
theorem ev2T {α : Type} {c : Prop} [Decidable c] {f g : Nat → Nat → Option α} {r : α} (h : c) (q : Ev2 f r) : Ev2 (fun n k => if c then f n k else g n k) r := q.congr fun n k => if_pos h
theorem ev2F {α : Type} {c : Prop} [Decidable c] {f g : Nat → Nat → Option α} {r : α} (h : ¬ c) (q : Ev2 g r) : Ev2 (fun n k => if c then f n k else g n k) r := q.congr fun n k => if_neg h
theorem evX {α : Type} {f g : Nat → Option α} {r : α} (h : ∀ k, f k = g k) (q : Ev g r) : Ev f r := Ev.congr h q
theorem dT {c : Prop} [Decidable c] (h : c) : decide c = true := decide_eq_true h
theorem dF {c : Prop} [Decidable c] (h : ¬ c) : ¬ (decide c = true) := fun q => h (of_decide_eq_true q)
theorem bT {x y : Int} (h : x = y) : (x == y) = true := beq_iff_eq.2 h
theorem bF {x y : Int} (h : x ≠ y) : ¬ ((x == y) = true) := fun q => h (beq_iff_eq.1 q)
theorem nT {x y : Int} (h : x ≠ y) : (x != y) = true := bne_iff_ne.2 h
theorem nF {x y : Int} (h : x = y) : ¬ ((x != y) = true) := fun q => bne_iff_ne.1 q h
theorem notT {b : Bool} (h : b = false) : (!b) = true := by rw [h]; rfl
theorem notF {b : Bool} (h : b = true) : ¬ ((!b) = true) := by rw [h]; decide
theorem wrap_i64' (x : Int) : IntKind.wrap IntKind.i64 x = wrap64 x := by unfold wrap64; rw [IntKind.wrap_i64]
theorem rem_tmod (k : IntKind) (x y : Int) : Go.Vx.divF BinOp.rem k x y = Int.tmod x y := rfl
end Go.Proofs.YtjnpcpnjcieheaaGreatQ
