-- PRINTED by print.py (a twelfth state) out of the translation. Not trusted: Lean checks it.
import Derived.Test.YtcanekmlabehgaaP46x0
import Derived.Test.YtcanekmlabehgaaP46x1
import Derived.Test.YtcanekmlabehgaaP46x2
import Derived.Test.YtcanekmlabehgaaP46x3
import Derived.Test.YtcanekmlabehgaaVsJ
namespace Go.Proofs.Ytcanekmlabehgaa.P46
open Go.RowKit Go.Proofs.YtcanekmlabehgaaW.PrintWords Go.Proofs.YtcanekmlabehgaaW.PrintLast Go.Proofs.YtcanekmlabehgaaW.PrintMore
attribute [local go_sem] max2_int min2_int max_two min_two max_three min_three max_four min_four   -- for this text's walks alone
set_option linter.unusedVariables false
set_option linter.unusedSimpArgs false

/-! ### plexuslaw46_examples: function 22 -/
def plexuslaw46_examples.l0 : Nat → List Int → List Int → Int → Int → Option (Bool)
  | 0, _, _, _, _ => none
  | k + 1, x1, x2, x3, x4 => if x4 ≥ 24 then (if 0 ≤ x4 then (if x4 < (x1.length : Int) then (plexuslaw46_examples.l0 k x1 x2 (Go.bits .or .u64 (IntKind.u64.wrap (x3 * 256)) (IntKind.u64.wrap (rd x1 x4))) (wrap64 (x4 - 1))) else (none)) else (none)) else ((plexuslaw46_read.f k x1).bind fun bt230 => ((plexuslaw46_read.f k x2).bind fun bt237 => (if 31 ≤ (x1.length : Int) then ((plexuslaw46_read.f k (x1.take 31)).bind fun bt248 => ((journal_Put.f k (x1.take 31) ([] : List Int)).bind fun bt262 => ((seal_Tag.f 0 (([5] : List Int))).bind fun t269 => (if x3 = t269 then (if bt230.2.2 = 0 then ((plexusref46_Records.f k bt230.1 (([(([5] : List Int))] : List (List Int)))).bind fun t276 => (if t276 = true then ((plexusref46_Records.f k bt237.1 (([(([5] : List Int)), (([] : List Int))] : List (List Int)))).bind fun t286 => (if t286 = true then (if bt248.2.2 = 460 then (if (bt248.1.length : Int) = 0 then (if (bt248.2.1.length : Int) = 31 then (if bt262.2 = 460 then (if 50 ≤ (x2.length : Int) then ((journal_Whole.f k (x2.take 50)).bind fun t291 => (some ((t291.length : Int) == 32))) else (none)) else (none)) else (none)) else (none)) else (none)) else (none))) else (none))) else (none)) else (none))))) else (none))))
def plexuslaw46_examples.f (k : Nat)  : Option (Bool) := (plexuslaw46_put.f k ([] : List Int) (([5] : List Int))).bind fun t220 => ((plexuslaw46_put.f k t220 ([] : List Int)).bind fun t223 => (if (t220.length : Int) = 32 then (if (t223.length : Int) = 56 then (if 0 < (t220.length : Int) then (if (rd t220 0) = 1 then (if 16 < (t220.length : Int) then (if (rd t220 16) = 5 then (if 17 < (t220.length : Int) then (if (rd t220 17) = 0 then (plexuslaw46_examples.l0 k t220 t223 0 31) else (none)) else (none)) else (none)) else (none)) else (none)) else (none)) else (none)) else (none)))
theorem plexuslaw46_examples.mono_l : ∀ k, (∀ y0 y1 y2 y3, LeO (plexuslaw46_examples.l0 k y0 y1 y2 y3) (plexuslaw46_examples.l0 (k + 1) y0 y1 y2 y3))
  | 0 => fun _ _ _ _ r h => by simp [plexuslaw46_examples.l0] at h
  | k + 1 => by
    have ih0 := plexuslaw46_examples.mono_l k
    · intro y0 y1 y2 y3
      unfold plexuslaw46_examples.l0
      repeat' first
      | (with_reducible exact ih0 _ _ _ _)
      | (with_reducible exact journal_Put.mono _ _ _)
      | (with_reducible exact journal_Whole.mono _ _)
      | (with_reducible exact plexuslaw46_put.mono _ _ _)
      | (with_reducible exact plexuslaw46_read.mono _ _)
      | (with_reducible exact plexusref46_Records.mono _ _ _)
      | (with_reducible exact LeO.refl _)
      | (with_reducible exact LeO.none _)
      | (with_reducible refine LeO.ite ?_ ?_)
      | (with_reducible refine LeO.bind ?_ (fun _ => ?_))
      | exact ih0 _ _ _ _
      | exact journal_Put.mono _ _ _
      | exact journal_Whole.mono _ _
      | exact plexuslaw46_put.mono _ _ _
      | exact plexuslaw46_read.mono _ _
      | exact plexusref46_Records.mono _ _ _
      | exact LeO.none _
      | refine LeO.ite ?_ ?_
      | refine LeO.bind ?_ (fun _ => ?_)
theorem plexuslaw46_examples.mono : ∀ k, LeO (plexuslaw46_examples.f k ) (plexuslaw46_examples.f (k + 1) ) := by
  intro  k
  have ih0 := plexuslaw46_examples.mono_l k
  unfold plexuslaw46_examples.f
  repeat' first
      | (with_reducible exact ih0 _ _ _ _)
      | (with_reducible exact journal_Put.mono _ _ _)
      | (with_reducible exact journal_Whole.mono _ _)
      | (with_reducible exact plexuslaw46_put.mono _ _ _)
      | (with_reducible exact plexuslaw46_read.mono _ _)
      | (with_reducible exact plexusref46_Records.mono _ _ _)
      | (with_reducible exact LeO.refl _)
      | (with_reducible exact LeO.none _)
      | (with_reducible refine LeO.ite ?_ ?_)
      | (with_reducible refine LeO.bind ?_ (fun _ => ?_))
      | exact ih0 _ _ _ _
      | exact journal_Put.mono _ _ _
      | exact journal_Whole.mono _ _
      | exact plexuslaw46_put.mono _ _ _
      | exact plexuslaw46_read.mono _ _
      | exact plexusref46_Records.mono _ _ _
      | exact LeO.none _
      | refine LeO.ite ?_ ?_
      | refine LeO.bind ?_ (fun _ => ?_)
def plexuslaw46_examples.T10 : Bool × List (List Nat × List Nat) := (true, [([], []), ([0], [0]), ([], []), ([2, 1], [2]), ([], []), ([4], [4]), ([5, 3], [5]), ([], []), ([], []), ([], []), ([7, 1, 6, 0, 1, 7, 8, 9], [1, 7]), ([8, 3, 10, 0, 1, 2, 3, 7, 8, 9, 10], [3, 8]), ([9, 6, 11, 0, 1, 2, 3, 4, 5, 6, 7, 8, 9, 10, 11], [6, 9])])
def plexuslaw46_examples.B10 : List Nat := [0, 1, 0, 7, 0, 16, 63, 0, 0, 0, 1023, 2047, 4095]
theorem plexuslaw46_examples.tab10 : rtab .any (opsOf Try.f22 10) = plexuslaw46_examples.T10 := by kernel_rfl
theorem plexuslaw46_examples.bits10 : waitsOk plexuslaw46_examples.T10.2 plexuslaw46_examples.B10 = true := by kernel_rfl
theorem plexuslaw46_examples.up (k : Nat) : ∀ n, LeO (plexuslaw46_examples.f k) (plexuslaw46_examples.f (k + n))
  | 0 => LeO.refl _
  | n + 1 => LeO.trans (plexuslaw46_examples.up k n) (plexuslaw46_examples.mono (k + n))
theorem plexuslaw46_examples.calls (k : Nat)  (r : Bool) (w : World) (h : plexuslaw46_examples.f k  = some r) :
    Calls Try.prog 22 #[] w fun e w' => e = .returned (.bool r) ∧ Below w.heap.size w w' := by
  have h1 := plexuslaw46_examples.up k 100 r h
  have h2 := plexuslaw46_examples.up 100 k true (by kernel_rfl)
  rw [Nat.add_comm] at h2
  rw [h2] at h1
  obtain rfl := Option.some.inj h1
  refine (V46.sExs_good.ends () true rfl w (fun _ => False) [] (fun _ q => q.elim) rfl).mono ?_
  rintro e w' ⟨rc, F', rfl, hb, _, hri, _⟩
  obtain rfl : rc = [.bool true] := hri
  exact ⟨rfl, hb⟩
end Go.Proofs.Ytcanekmlabehgaa.P46
