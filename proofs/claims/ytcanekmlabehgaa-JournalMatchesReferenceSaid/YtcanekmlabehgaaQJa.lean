/- Journals, plain facts: words as bytes, digests of lists of numbers. -/
import Derived.Test.YtcanekmlabehgaaP46x1
import Derived.Test.YtcanekmlabehgaaQStepN
namespace Go.Proofs.YtcanekmlabehgaaQ
set_option linter.unusedVariables false
set_option linter.unusedSimpArgs false
open Go.RowKit Go.Proofs.Ytcanekmlabehgaa.P46 Go.Proofs.YtcanekmlabehgaaW.PrintWords Go.Proofs.YtcanekmlabehgaaW.PrintLast Go.Proofs.YtcanekmlabehgaaW.PrintMore
theorem evJT {α : Type} {c : Prop} [Decidable c] {f g : Nat → Option α} {r : α} (h : c) (k : Ev f r) : Ev (fun n => if c then f n else g n) r := Ev.congr (fun n => if_pos h) k
theorem evJF {α : Type} {c : Prop} [Decidable c] {f g : Nat → Option α} {r : α} (h : ¬ c) (k : Ev g r) : Ev (fun n => if c then f n else g n) r := Ev.congr (fun n => if_neg h) k
/-- The bits of a number of 64 bits, without a sign. -/
def u64 (x : Int) : Nat := (x % 18446744073709551616).toNat
theorem u64_lt (x : Int) : u64 x < 2 ^ 64 := by unfold u64; omega
theorem u64_cast (x : Int) : ((u64 x : Nat) : Int) = IntKind.u64.wrap x := by rw [IntKind.wrap_u64]; unfold u64; omega
theorem u64_nat {n : Nat} (h : n < 2 ^ 64) : u64 (n : Int) = n := by unfold u64; omega
theorem u64_inj {x y : Int} (hx : -9223372036854775808 ≤ x ∧ x < 9223372036854775808) (hy : -9223372036854775808 ≤ y ∧ y < 9223372036854775808) (h : u64 x = u64 y) : x = y := by unfold u64 at h; omega
theorem wrap_u64 {x : Int} (hx : -9223372036854775808 ≤ x ∧ x < 9223372036854775808) : wrap64 ((u64 x : Nat) : Int) = x := by unfold u64 wrap64; omega
theorem dstep46 {h w : Nat} (hh : h < 2 ^ 64) (hw : w < 2 ^ 64) : seal_digest_step.f (h : Int) (w : Int) = some ((stepN h w : Nat) : Int) := by
  unfold seal_digest_step.f
  have ht : (h ^^^ w) * 11400714819323198485 % 2 ^ 64 < 2 ^ 64 := Nat.mod_lt _ (by decide)
  rw [xor64 hh hw, show ((11400714819323198485 : Int)) = ((11400714819323198485 : Nat) : Int) from rfl, mul64, div29, xor64 ht (sr_lt ht 29), show ((13787848793156543929 : Int)) = ((13787848793156543929 : Nat) : Int) from rfl, mul64]
  rfl
/-- The digest of a list of numbers. -/
def wfold (d : Nat) (l : List Int) : Nat := l.foldl (fun d x => stepN d (u64 x)) d
def wordsN (l : List Int) : Nat := stepN (wfold 123610861172083 l) (l.length % 2 ^ 64)
theorem wordsN_lt (l : List Int) : wordsN l < 2 ^ 64 := stepN_lt _ _
theorem wfold_lt {d : Nat} (hd : d < 2 ^ 64) : ∀ l : List Int, wfold d l < 2 ^ 64
  | [] => hd
  | x :: l => wfold_lt (stepN_lt _ _) l
theorem stepv46 {h w : Nat} (hh : h < 2 ^ 64) (hw : w < 2 ^ 64) : seal_stepv (h : Int) (w : Int) = ((stepN h w : Nat) : Int) := by unfold seal_stepv; rw [dstep46 hh hw]; rfl
theorem fold46 : ∀ (l : List Int) (d : Nat), d < 2 ^ 64 → (l.map (IntKind.u64.wrap ·)).foldl seal_stepv (d : Int) = ((wfold d l : Nat) : Int)
  | [], d, hd => rfl
  | x :: l, d, hd => by
    rw [List.map_cons, List.foldl_cons, ← u64_cast, stepv46 hd (u64_lt x)]
    exact fold46 l _ (stepN_lt _ _)
theorem words46 (l : List Int) : seal_Words.f l = some ((wordsN l : Nat) : Int) := by
  unfold seal_Words.f wordsN
  have h1 := fold46 l 123610861172083 (by decide)
  rw [show ((123610861172083 : Int)) = ((123610861172083 : Nat) : Int) from rfl, h1, ← u64_cast, stepv46 (wfold_lt (by decide) l) (u64_lt _)]
  rw [show u64 (l.length : Int) = l.length % 2 ^ 64 by unfold u64; omega]
/-- The tag of a list of numbers. -/
def tagN (key : Nat) (l : List Int) : Nat := stepN key (wordsN l)
theorem tagN_lt (key : Nat) (l : List Int) : tagN key l < 2 ^ 64 := stepN_lt _ _
theorem tag46 {key : Nat} (hk : key < 2 ^ 64) (l : List Int) : seal_Tag.f (key : Int) l = some ((tagN key l : Nat) : Int) := by
  unfold seal_Tag.f
  rw [words46]
  simp only [Option.bind_some]
  unfold seal_Step.f
  rw [dstep46 hk (wordsN_lt l)]
  rfl
/-- One number is another one: another digest. -/
theorem wfold_inj : ∀ (l : List Int) (d e : Nat), d < 2 ^ 64 → e < 2 ^ 64 → wfold d l = wfold e l → d = e
  | [], d, e, _, _, h => h
  | x :: l, d, e, hd, he, h => by
    have h1 := wfold_inj l _ _ (stepN_lt _ _) (stepN_lt _ _) h
    rw [stepN_comm d, stepN_comm e] at h1
    exact (stepN_inj (u64_lt x) hd he).1 h1
theorem wfold_set : ∀ (l : List Int) (i : Nat) (v : Int) (d : Nat), i < l.length → d < 2 ^ 64 → (∀ x ∈ l, -9223372036854775808 ≤ x ∧ x < 9223372036854775808) → (-9223372036854775808 ≤ v ∧ v < 9223372036854775808) → wfold d (l.set i v) = wfold d l → l.getD i 0 = v
  | [], i, v, d, hi, _, _, _, _ => by simp at hi
  | x :: l, 0, v, d, hi, hd, hl, hv, h => by
    have h1 := wfold_inj l _ _ (stepN_lt _ _) (stepN_lt _ _) h
    have h2 := (stepN_inj hd (u64_lt v) (u64_lt x)).1 h1
    rw [List.getD_cons_zero]
    exact (u64_inj hv (hl x (by simp)) h2).symm
  | x :: l, i + 1, v, d, hi, hd, hl, hv, h => by
    rw [List.getD_cons_succ]
    exact wfold_set l i v _ (by simpa using hi) (stepN_lt _ _) (fun y hy => hl y (by simp [hy])) hv h
theorem wordsN_set {l : List Int} {i : Nat} {v : Int} (hi : i < l.length) (hl : ∀ x ∈ l, -9223372036854775808 ≤ x ∧ x < 9223372036854775808) (hv : -9223372036854775808 ≤ v ∧ v < 9223372036854775808) (h : wordsN (l.set i v) = wordsN l) : l.getD i 0 = v := by
  unfold wordsN at h
  rw [List.length_set, stepN_comm, stepN_comm (wfold _ l)] at h
  have hm : l.length % 2 ^ 64 < 2 ^ 64 := Nat.mod_lt _ (by decide)
  exact wfold_set l i v _ hi (by decide) hl hv ((stepN_inj hm (wfold_lt (by decide) _) (wfold_lt (by decide) _)).1 h)
theorem wordsN_one {a b : Int} (ha : -9223372036854775808 ≤ a ∧ a < 9223372036854775808) (hb : -9223372036854775808 ≤ b ∧ b < 9223372036854775808) (h : wordsN [a] = wordsN [b]) : a = b := by
  have := wordsN_set (l := [b]) (i := 0) (v := a) (by simp) (by simpa using hb) ha (by simpa using h)
  simpa using this.symm
theorem tagN_inj {key : Nat} (hk : key < 2 ^ 64) {l m : List Int} (h : tagN key l = tagN key m) : wordsN l = wordsN m := (stepN_inj hk (wordsN_lt l) (wordsN_lt m)).1 h
end Go.Proofs.YtcanekmlabehgaaQ
