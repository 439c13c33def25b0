/- The best bound, by recursion, is a bound; and the program's numbers are these. -/
import Derived.Test.YtcanekmlabehgaaQCode
import Derived.Test.YtcanekmlabehgaaQBound
namespace Go.Proofs.YtcanekmlabehgaaQ
set_option linter.unusedVariables false
set_option linter.unusedSimpArgs false
open Go.RowKit Go.Proofs.Ytcanekmlabehgaa.P Go.Proofs.YtcanekmlabehgaaW.PrintWords Go.Proofs.YtcanekmlabehgaaW.PrintLast Go.Proofs.YtcanekmlabehgaaW.PrintMore

def sph (n d : Nat) : Nat := 2 ^ n / vol n ((d - 1) / 2)
def sing (n d : Nat) : Nat := 2 ^ (n - d + 1)
def ploE (n d : Nat) : Option Nat := if n > 2 * d then none else if n = 2 * d then some (4 * d) else some (2 * (d / (2 * d - n)))
def plo (n d : Nat) : Option Nat := if d % 2 = 1 then ploE (n + 1) (d + 1) else ploE n d
def least : Option Nat → Nat → Nat
  | none, b => b
  | some a, b => min a b
def bst : Nat → Nat → Nat
  | 0, _ => 1
  | n + 1, d => min (sph (n + 1) d) (min (sing (n + 1) d) (least (plo (n + 1) d) (min (if d ≤ n then 2 * bst n d else sing (n + 1) d) (if d % 2 = 0 then bst n (d - 1) else sing (n + 1) d))))

theorem vol_pos (n : Nat) : ∀ t, 0 < vol n t := by
  induction n with
  | zero => intro t; exact Nat.one_pos
  | succ n ih =>
    intro t
    cases t with
    | zero => exact ih 0
    | succ t => have := ih t; have := ih (t + 1); simp only [vol]; omega
theorem WCode.weaken {n d d' : Nat} {l : List Nat} (h : WCode n d l) (hd : d' ≤ d) : WCode n d' l := ⟨h.1, h.2.imp fun hab => Nat.le_trans hd hab⟩
theorem WCode.sph {n d : Nat} {l : List Nat} (h : WCode n d l) (hd : 1 ≤ d) : l.length ≤ sph n d := by
  have := WCode.hamming (t := (d - 1) / 2) (h.weaken (by omega))
  exact (Nat.le_div_iff_mul_le (vol_pos _ _)).2 this
theorem WCode.sing {n d : Nat} {l : List Nat} (h : WCode n d l) (hd : 1 ≤ d) (hn : d ≤ n) : l.length ≤ sing n d := by
  obtain ⟨d, rfl⟩ : ∃ e, d = e + 1 := ⟨d - 1, by omega⟩
  obtain ⟨m, rfl⟩ : ∃ m, n = m + d := ⟨n - d, by omega⟩
  have := WCode.singleton h
  unfold YtcanekmlabehgaaQ.sing
  rwa [show m + d - (d + 1) + 1 = m by omega]
theorem WCode.ploE {n d b : Nat} {l : List Nat} (h : WCode n d l) (hd : 1 ≤ d) (hn : d ≤ n) (hb : ploE n d = some b) : l.length ≤ b := by
  unfold YtcanekmlabehgaaQ.ploE at hb
  split at hb
  · exact absurd hb (by simp)
  · split at hb
    · rename_i e
      obtain rfl := Option.some.inj hb
      exact h.plotkin_even hd e
    · obtain rfl := Option.some.inj hb
      exact h.plotkin hn (by omega)
theorem WCode.plo {n d b : Nat} {l : List Nat} (h : WCode n d l) (hd : 1 ≤ d) (hn : d ≤ n) (hb : plo n d = some b) : l.length ≤ b := by
  unfold YtcanekmlabehgaaQ.plo at hb
  split at hb
  · rename_i e
    have := (h.extended e).ploE (by omega) (by omega) hb
    simpa using this
  · exact h.ploE hd hn hb
theorem WCode.bst : ∀ {n d : Nat} {l : List Nat}, WCode n d l → 1 ≤ d → d ≤ n → l.length ≤ bst n d := by
  intro n
  induction n with
  | zero => intro d l h hd hn; omega
  | succ n ih =>
    intro d l h hd hn
    have h1 := h.sph hd
    have h2 := h.sing hd hn
    have h3 : l.length ≤ (if d ≤ n then 2 * YtcanekmlabehgaaQ.bst n d else YtcanekmlabehgaaQ.sing (n + 1) d) := by
      split
      · rename_i hdn
        exact h.doubled (fun m hm => ih hm hd hdn)
      · exact h2
    have h4 : l.length ≤ (if d % 2 = 0 then YtcanekmlabehgaaQ.bst n (d - 1) else YtcanekmlabehgaaQ.sing (n + 1) d) := by
      split
      · obtain ⟨e, rfl⟩ : ∃ e, d = e + 1 := ⟨d - 1, by omega⟩
        have := ih h.punctured (by omega) (by omega)
        simpa using this
      · exact h2
    have h5 : l.length ≤ least (YtcanekmlabehgaaQ.plo (n + 1) d) (min (if d ≤ n then 2 * YtcanekmlabehgaaQ.bst n d else YtcanekmlabehgaaQ.sing (n + 1) d) (if d % 2 = 0 then YtcanekmlabehgaaQ.bst n (d - 1) else YtcanekmlabehgaaQ.sing (n + 1) d)) := by
      cases hp : YtcanekmlabehgaaQ.plo (n + 1) d with
      | none => exact Nat.le_min.2 ⟨h3, h4⟩
      | some b => exact Nat.le_min.2 ⟨h.plo hd hn hp, Nat.le_min.2 ⟨h3, h4⟩⟩
    exact Nat.le_min.2 ⟨h1, Nat.le_min.2 ⟨h2, h5⟩⟩

def vals (n d : Nat) : Bool := plexuslaw23_sphere.f 60 n d == some ((sph n d : Int), 0) && plexuslaw23_singleton.f n d == some ((sing n d : Int), 0) && plexuslaw23_plotkin.f 60 n d == some (match plo n d with | none => (0, 4) | some b => ((b : Int), 0)) && plexuslaw23_best.f 60 n d == some ((bst n d : Int), 0)
theorem vals_all : ((List.range 17).all fun n => (List.range 17).all fun d => !(decide (1 ≤ d) && decide (d ≤ n)) || vals n d) = true := by kernel_rfl
theorem vals_at {n d : Nat} (hd : 1 ≤ d) (hn : d ≤ n) (h16 : n ≤ 16) : vals n d = true := by
  have h0 := List.all_eq_true.1 (List.all_eq_true.1 vals_all n (List.mem_range.2 (by omega))) d (List.mem_range.2 (by omega))
  rw [decide_eq_true hd, decide_eq_true hn] at h0
  simpa using h0
theorem four_vals {n d : Nat} (hd : 1 ≤ d) (hn : d ≤ n) (h16 : n ≤ 16) :
    Ev (fun k => plexuslaw23_sphere.f k n d) ((sph n d : Int), 0) ∧ plexuslaw23_singleton.f n d = some ((sing n d : Int), 0) ∧ Ev (fun k => plexuslaw23_plotkin.f k n d) (match plo n d with | none => (0, 4) | some b => ((b : Int), 0)) ∧ Ev (fun k => plexuslaw23_best.f k n d) ((bst n d : Int), 0) := by
  have h := vals_at hd hn h16
  simp only [vals, Bool.and_eq_true, beq_iff_eq] at h
  obtain ⟨⟨⟨h1, h2⟩, h3⟩, h4⟩ := h
  exact ⟨Ev.of (fun k => plexuslaw23_sphere.mono _ _ k) h1, h2, Ev.of (fun k => plexuslaw23_plotkin.mono _ _ k) h3, Ev.of (fun k => plexuslaw23_best.mono _ _ k) h4⟩
end Go.Proofs.YtcanekmlabehgaaQ
