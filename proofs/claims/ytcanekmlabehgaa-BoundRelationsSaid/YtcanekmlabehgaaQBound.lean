/- The functions of the bounds, as the print tells them: what they answer. -/
import Derived.Test.YtcanekmlabehgaaPx5
import Derived.Test.YtcanekmlabehgaaQBits
import Derived.KernelRfl
namespace Go.Proofs.YtcanekmlabehgaaQ
set_option linter.unusedVariables false
set_option linter.unusedSimpArgs false
open Go.RowKit Go.Proofs.Ytcanekmlabehgaa.P Go.Proofs.YtcanekmlabehgaaW.PrintWords Go.Proofs.YtcanekmlabehgaaW.PrintLast Go.Proofs.YtcanekmlabehgaaW.PrintMore

theorem weight_l0 (x : Nat) (hx : x < 2 ^ 16) : ∀ d i c : Nat, i + d = 16 → c ≤ i → Ev (fun k => plexusref23_Weight.l0 k x c i) ((c + pop d (x / 2 ^ i) : Nat) : Int) := by
  intro d
  induction d with
  | zero =>
    intro i c hi _
    exact Ev.step (f := fun _ => some _) (fun k => by simp only [plexusref23_Weight.l0, pop]; rw [if_neg (by omega)]; simp) (Ev.now _)
  | succ d ih =>
    intro i c hi hc
    refine Ev.step (f := fun k => plexusref23_Weight.l0 k x ((c + x / 2 ^ i % 2 : Nat) : Int) ((i + 1 : Nat) : Int)) (fun k => ?_) ?_
    · simp only [plexusref23_Weight.l0]
      have h1 : IntKind.u64.wrap (i : Int) = i := wu64 (by omega) (by omega)
      have h2 : shr .i64 (x : Int) (i : Int) = ((x / 2 ^ i : Nat) : Int) := by
        unfold shr
        rw [show min (i : Int).toNat IntKind.i64.bits = i from by simp [IntKind.bits]; omega]
        simp
      have h3 : Go.bits .and .i64 ((x / 2 ^ i : Nat) : Int) 1 = ((x / 2 ^ i % 2 : Nat) : Int) := by
        have h4 : x / 2 ^ i ≤ x := Nat.div_le_self _ _
        rw [show (1 : Int) = ((1 : Nat) : Int) from rfl, and_nat (by omega) (by omega), Nat.and_one_is_mod]
      rw [if_pos (by omega), h1, if_pos (by omega), h2, h3, w64 (by omega) (by omega), w64 (by omega) (by omega)]
      simp
    · have := ih (i + 1) (c + x / 2 ^ i % 2) (by omega) (by omega)
      rw [Nat.pow_succ, ← Nat.div_div_eq_div_mul] at this
      simp only [pop]
      rw [show c + (x / 2 ^ i % 2 + pop d (x / 2 ^ i / 2)) = c + x / 2 ^ i % 2 + pop d (x / 2 ^ i / 2) by omega]
      exact this
theorem weight_f (x : Nat) (hx : x < 2 ^ 16) : Ev (fun k => plexusref23_Weight.f k x) (pop 16 x : Int) := by
  have := weight_l0 x hx 16 0 0 (by omega) (by omega)
  simp only [Nat.pow_zero, Nat.div_one, Nat.zero_add] at this
  exact this

theorem ones_all : ((List.range 1024).all fun x => bits_OnesCount.f (x : Int) == some (pop 16 x : Int)) = true := by kernel_rfl
theorem ones_f (x : Nat) (hx : x < 1024) : bits_OnesCount.f (x : Int) = some (pop 16 x : Int) := by
  have := List.all_eq_true.1 ones_all x (List.mem_range.2 hx)
  simpa using this

/-! ### the greedy code -/
def far (d : Nat) (l : List Nat) (w : Nat) : Bool := l.all fun x => decide (d ≤ pop 16 (w ^^^ x))
def gstep (d : Nat) (l : List Nat) (w : Nat) : List Nat := if far d l w then l ++ [w] else l
theorem far_cons (d x w : Nat) (l : List Nat) : far d (x :: l) w = (decide (d ≤ pop 16 (w ^^^ x)) && far d l w) := rfl
theorem far_yes {d x w : Nat} {l : List Nat} (h : d ≤ pop 16 (w ^^^ x)) : far d (x :: l) w = far d l w := by rw [far_cons, decide_eq_true h]; rfl
theorem far_no {d x w : Nat} {l : List Nat} (h : ¬ d ≤ pop 16 (w ^^^ x)) : far d (x :: l) w = false := by rw [far_cons, decide_eq_false h]; rfl
/-- The words w, w + 1, .., as many as n, tried one after the other. -/
def tried (d : Nat) : Nat → Nat → List Nat → List Nat
  | 0, _, l => l
  | n + 1, w, l => tried d n (w + 1) (gstep d l w)
def ints (l : List Nat) : List Int := l.map fun x : Nat => (x : Int)
theorem ints_len (l : List Nat) : (ints l).length = l.length := by simp [ints]
theorem ints_snoc (l : List Nat) (w : Nat) : ints (l ++ [w]) = ints l ++ [(w : Int)] := by simp [ints]
theorem rd_ints (l : List Nat) (j : Nat) (h : j < l.length) : rd (ints l) (j : Int) = (l[j] : Int) := by
  simp [rd, ints, h]
theorem greedy_l1 (d N w : Nat) (hd : d ≤ 100) (ls : List Nat) (hw : w < 1024) (hN : N ≤ 1024) (hl : ∀ x ∈ ls, x < 1024) (hlen : ls.length ≤ 1024) {r : List Int × Int}
    (next : Ev (fun k => bound_Greedy.l0 k d (ints (gstep d ls w)) N (w + 1 : Nat)) r) :
    ∀ n j : Nat, j + n = ls.length → (far d ls w = far d (ls.drop j) w) → Ev (fun k => bound_Greedy.l1 k d (ints ls) w N w (ls.length : Int) j) r := by
  intro n
  induction n with
  | zero =>
    intro j hj hf
    refine Ev.step (f := fun k => bound_Greedy.l0 k d (ints (gstep d ls w)) N (w + 1 : Nat)) (fun k => ?_) next
    have e : gstep d ls w = ls ++ [w] := by
      unfold gstep
      rw [hf, List.drop_of_length_le (by omega)]
      rfl
    simp only [bound_Greedy.l1]
    rw [if_neg (by omega), if_pos (by rw [ints_len]; omega), w64 (by omega) (by omega), e, ints_snoc]
    simp
  | succ n ih =>
    intro j hj hf
    have hlt : j < ls.length := by omega
    have hx : ls[j] < 1024 := hl _ (List.getElem_mem hlt)
    have hxor : w ^^^ ls[j] < 1024 := Nat.xor_lt_two_pow (n := 10) hw hx
    rw [List.drop_eq_getElem_cons hlt] at hf
    have hof : bits_OnesCount.f (IntKind.u64.wrap (Go.bits .xor .i64 (w : Int) (rd (ints ls) (j : Int)))) = some (pop 16 (w ^^^ ls[j]) : Int) := by
      rw [rd_ints ls j hlt, xor_nat (by omega) (by omega), wu64 (by omega) (by omega), ones_f _ hxor]
    by_cases hc : d ≤ pop 16 (w ^^^ ls[j])
    · refine Ev.step (f := fun k => bound_Greedy.l1 k d (ints ls) w N w (ls.length : Int) (j + 1 : Nat)) (fun k => ?_) (ih (j + 1) (by omega) (by rw [hf, far_yes hc]))
      simp only [bound_Greedy.l1]
      rw [if_pos (by omega), if_pos (by omega), if_pos (by rw [ints_len]; omega), hof]
      simp only [Option.bind_some]
      rw [if_neg (by omega), w64 (by omega) (by omega)]
      simp
    · have e : gstep d ls w = ls := by
        unfold gstep
        rw [hf, far_no hc]
        rfl
      rw [e] at next
      refine Ev.step (f := fun k => bound_Greedy.l0 k d (ints ls) N (w + 1 : Nat)) (fun k => ?_) next
      simp only [bound_Greedy.l1]
      rw [if_pos (by omega), if_pos (by omega), if_pos (by rw [ints_len]; omega), hof]
      simp only [Option.bind_some]
      rw [if_pos (by omega), w64 (by omega) (by omega)]
      simp
theorem greedy_l0 (d : Nat) (hd : d ≤ 100) (N : Nat) (hN : N ≤ 1024) : ∀ (n w : Nat) (ls : List Nat), w + n = N → (∀ x ∈ ls, x < 1024) → ls.length ≤ w →
    Ev (fun k => bound_Greedy.l0 k d (ints ls) N w) (ints (tried d n w ls), 0) := by
  intro n
  induction n with
  | zero =>
    intro w ls hw hl hlen
    refine Ev.step (f := fun _ => some _) (fun k => ?_) (Ev.now _)
    simp only [bound_Greedy.l0, tried]
    rw [if_neg (by omega)]
  | succ n ih =>
    intro w ls hw hl hlen
    refine Ev.step (f := fun k => bound_Greedy.l1 k d (ints ls) w N w (ls.length : Int) (0 : Nat)) (fun k => ?_) ?_
    · simp only [bound_Greedy.l0]
      rw [if_pos (by omega), ints_len]
      rfl
    · refine greedy_l1 d N w hd ls (by omega) hN hl (by omega) ?_ ls.length 0 (by omega) rfl
      refine ih (w + 1) (gstep d ls w) (by omega) ?_ ?_
      · unfold gstep
        split
        · intro x hx
          rcases List.mem_append.1 hx with hx | hx
          · exact hl x hx
          · rw [List.mem_singleton.1 hx]
            omega
        · exact hl
      · unfold gstep
        split
        · simp
          omega
        · omega

theorem far_l0 (d w : Nat) (ls : List Nat) (hd : d ≤ 100) (hw : w < 1024) (hl : ∀ x ∈ ls, x < 1024) (hlen : ls.length ≤ 1024) :
    ∀ n j : Nat, j + n = ls.length → Ev (fun k => plexusref23_far.l0 k (ints ls) w d j) (far d (ls.drop j) w) := by
  intro n
  induction n with
  | zero =>
    intro j hj
    refine Ev.step (f := fun _ => some _) (fun k => ?_) (Ev.now _)
    simp only [plexusref23_far.l0]
    rw [if_neg (by rw [ints_len]; omega), List.drop_of_length_le (by omega)]
    rfl
  | succ n ih =>
    intro j hj
    have hlt : j < ls.length := by omega
    have hx : ls[j] < 1024 := hl _ (List.getElem_mem hlt)
    have hxor : ls[j] ^^^ w < 1024 := Nat.xor_lt_two_pow (n := 10) hx hw
    have hcomm : ls[j] ^^^ w = w ^^^ ls[j] := Nat.xor_comm _ _
    refine Ev.step (f := fun k => (plexusref23_Weight.f k ((ls[j] ^^^ w : Nat) : Int)).bind fun t => if t < (d : Int) then some false else plexusref23_far.l0 k (ints ls) w d ((j + 1 : Nat) : Int)) (fun k => ?_) ?_
    · simp only [plexusref23_far.l0]
      rw [if_pos (by rw [ints_len]; omega), if_pos (by omega), rd_ints ls j hlt, xor_nat (by omega) (by omega), w64 (by omega) (by omega)]
      rfl
    · refine Ev.bind (weight_f _ (by omega)) ?_
      rw [List.drop_eq_getElem_cons hlt]
      by_cases hc : d ≤ pop 16 (w ^^^ ls[j])
      · refine Ev.congr (f := fun k => plexusref23_far.l0 k (ints ls) w d ((j + 1 : Nat) : Int)) (fun k => ?_) ?_
        · rw [hcomm, if_neg (by omega)]
        · rw [far_yes hc]
          exact ih (j + 1) (by omega)
      · refine Ev.congr (f := fun _ => some false) (fun k => ?_) ?_
        · rw [hcomm, if_pos (by omega)]
        · have e : far d (ls[j] :: ls.drop (j + 1)) w = false := far_no hc
          rw [e]
          exact Ev.now _
theorem far_f (d w : Nat) (ls : List Nat) (hd : d ≤ 100) (hw : w < 1024) (hl : ∀ x ∈ ls, x < 1024) (hlen : ls.length ≤ 1024) : Ev (fun k => plexusref23_far.f k (ints ls) w d) (far d ls w) := by
  have := far_l0 d w ls hd hw hl hlen ls.length 0 (by omega)
  exact this
theorem power_f (n : Nat) (hn : n ≤ 16) : plexusref23_Power.f (n : Int) = some ((2 ^ n : Nat) : Int) := by
  have : n = 0 ∨ n = 1 ∨ n = 2 ∨ n = 3 ∨ n = 4 ∨ n = 5 ∨ n = 6 ∨ n = 7 ∨ n = 8 ∨ n = 9 ∨ n = 10 ∨ n = 11 ∨ n = 12 ∨ n = 13 ∨ n = 14 ∨ n = 15 ∨ n = 16 := by omega
  rcases this with rfl | rfl | rfl | rfl | rfl | rfl | rfl | rfl | rfl | rfl | rfl | rfl | rfl | rfl | rfl | rfl | rfl <;> rfl
theorem greedyIn_l0 (n0 d : Nat) (hd : d ≤ 100) (hn : n0 ≤ 10) : ∀ (n w : Nat) (ls : List Nat), w + n = 2 ^ n0 → (∀ x ∈ ls, x < 1024) → ls.length ≤ w →
    Ev (fun k => plexusref23_GreedyIn.l0 k n0 d (ints ls) w) (ints (tried d n w ls), 0) := by
  have hN : 2 ^ n0 ≤ 1024 := Nat.pow_le_pow_right (by decide) hn
  intro n
  induction n with
  | zero =>
    intro w ls hw hl hlen
    refine Ev.step (f := fun _ => some _) (fun k => ?_) (Ev.now _)
    simp only [plexusref23_GreedyIn.l0, tried, power_f n0 (by omega), Option.bind_some]
    rw [if_neg (by omega)]
  | succ n ih =>
    intro w ls hw hl hlen
    refine Ev.step (f := fun k => (plexusref23_far.f k (ints ls) w d).bind fun t => plexusref23_GreedyIn.l0 k n0 d (ints (if t then ls ++ [w] else ls)) ((w + 1 : Nat) : Int)) (fun k => ?_) ?_
    · simp only [plexusref23_GreedyIn.l0, power_f n0 (by omega), Option.bind_some]
      rw [if_pos (by omega), w64 (by omega) (by omega)]
      congr 1
      funext t
      cases t
      · simp
      · rw [if_pos rfl, if_pos (by rw [ints_len]; omega), ← ints_snoc]
        rfl
    · refine Ev.bind (far_f d w ls hd (by omega) hl (by omega)) ?_
      refine ih (w + 1) (gstep d ls w) (by omega) ?_ ?_
      · unfold gstep
        split
        · intro x hx
          rcases List.mem_append.1 hx with hx | hx
          · exact hl x hx
          · rw [List.mem_singleton.1 hx]
            omega
        · exact hl
      · unfold gstep
        split
        · simp
          omega
        · omega
end Go.Proofs.YtcanekmlabehgaaQ
