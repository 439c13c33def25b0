-- PRINTED by print.py (a twelfth state) out of the translation. Not trusted: Lean checks it.
import Derived.Test.YtcanekmlabehgaaP03x0
import Derived.Test.YtcanekmlabehgaaP03x1
import Derived.Test.YtcanekmlabehgaaP03x2
import Derived.Test.YtcanekmlabehgaaP03x3
namespace Go.Proofs.Ytcanekmlabehgaa.P03
open Go.RowKit Go.Proofs.YtcanekmlabehgaaW.PrintWords Go.Proofs.YtcanekmlabehgaaW.PrintLast Go.Proofs.YtcanekmlabehgaaW.PrintMore
attribute [local go_sem] max2_int min2_int max_two min_two max_three min_three max_four min_four   -- for this text's walks alone
set_option linter.unusedVariables false
set_option linter.unusedSimpArgs false

/-! ### plexuslaw03_examples: function 55 -/
def plexuslaw03_examples.f (k : Nat)  : Option (Bool) := (some (([5, 6, 7] : List Int) : List Int)).bind fun y134 => ((plexuslaw03_opened.f k y134 2).bind fun bt137 => ((plexuslaw03_opened.f k y134 0).bind fun bt141 => ((plexuslaw03_opened.f k y134 3).bind fun bt145 => ((seal_Join.f 5 6).bind fun t152 => (if bt137.2 = 0 then (if bt141.2 = 0 then (if bt145.2 = 1 then ((plexusref03_Same.f k bt137.1 (([t152] : List Int))).bind fun t156 => (if t156 = true then ((plexusref03_Same.f k bt141.1 (([6, 7] : List Int))).bind fun t160 => (if t160 = true then (if 1 ≤ (y134.length : Int) then ((seal_Root.f k (y134.take 1)).bind fun t165 => (if t165 = 5 then (if 2 ≤ (y134.length : Int) then ((seal_Root.f k (y134.take 2)).bind fun t170 => (if t170 = t152 then ((seal_Root.f k y134).bind fun t171 => ((seal_Join.f t152 7).bind fun t172 => (if t171 = t172 then ((seal_Step.f 0 0).bind fun t173 => (if t173 = 0 then ((seal_Step.f 0 1).bind fun t174 => (if t174 = 0 then (none) else ((seal_Step.f 3 4).bind fun t175 => ((seal_Back.f k 3 t175).bind fun t176 => (if t176 = 4 then ((seal_Root.f k ([] : List Int)).bind fun t177 => ((seal_Words.f ([] : List Int)).bind fun t178 => (if t177 = t178 then ((seal_Root.f k y134).bind fun t179 => ((plexuslaw03_check.f k t179 3 bt137.1 2 7).bind fun t180 => (if t180 = 0 then ((seal_Root.f k y134).bind fun t181 => ((plexuslaw03_check.f k t181 3 bt141.1 2 7).bind fun t182 => (some (t182 == 6)))) else (none)))) else (none)))) else (none)))))) else (none))) else (none)))) else (none))) else (none)) else (none))) else (none)) else (none))) else (none))) else (none)) else (none)) else (none))))))
theorem plexuslaw03_examples.mono : ∀ k, LeO (plexuslaw03_examples.f k ) (plexuslaw03_examples.f (k + 1) ) := by
  intro  k
  unfold plexuslaw03_examples.f
  repeat' first
      | (with_reducible exact plexuslaw03_check.mono _ _ _ _ _ _)
      | (with_reducible exact plexuslaw03_opened.mono _ _ _)
      | (with_reducible exact plexusref03_Same.mono _ _ _)
      | (with_reducible exact seal_Back.mono _ _ _)
      | (with_reducible exact seal_Root.mono _ _)
      | (with_reducible exact LeO.refl _)
      | (with_reducible exact LeO.none _)
      | (with_reducible refine LeO.ite ?_ ?_)
      | (with_reducible refine LeO.bind ?_ (fun _ => ?_))
      | exact plexuslaw03_check.mono _ _ _ _ _ _
      | exact plexuslaw03_opened.mono _ _ _
      | exact plexusref03_Same.mono _ _ _
      | exact seal_Back.mono _ _ _
      | exact seal_Root.mono _ _
      | exact LeO.none _
      | refine LeO.ite ?_ ?_
      | refine LeO.bind ?_ (fun _ => ?_)
def plexuslaw03_examples.T6 : Bool × List (List Nat × List Nat) := (true, [([], []), ([0], [0]), ([1, 0], [1]), ([2, 2], [2]), ([3, 2], [2, 3]), ([2, 4], [2, 4]), ([5, 3], [5]), ([6, 6], [6]), ([7, 7, 6], [6, 7]), ([8, 6], [6, 8]), ([6, 9], [6, 9]), ([10, 8], [10]), ([11, 11], [11]), ([12, 11], [11]), ([12, 13, 11], [11, 12, 13]), ([11, 14], [11, 14]), ([15, 13], [15]), ([16], [16]), ([17, 16, 16], [16, 17]), ([16], [16]), ([19, 16], [16, 19]), ([20, 16], [16, 20]), ([16], [16]), ([18, 21, 22, 18, 16], [16, 18, 21, 22]), ([23, 16], [16, 23]), ([16, 24], [16, 24]), ([25, 23], [25]), ([26], [26]), ([27, 26, 26], [26, 27]), ([26], [26]), ([29, 26], [26, 29]), ([30, 26], [26, 30]), ([26], [26]), ([28, 31, 32, 28, 26], [26, 28, 31, 32]), ([33, 26], [26, 33]), ([26, 34], [26, 34]), ([35, 33, 0, 1, 2, 3, 4, 5, 6, 7, 8, 9, 10, 11, 12, 13, 14, 15, 16, 17, 18, 19, 20, 21, 22, 23, 24, 25, 26, 27, 28, 29, 30, 31, 32, 33, 34, 35], [35])])
def plexuslaw03_examples.B6 : List Nat := [0, 1, 3, 7, 15, 31, 63, 127, 255, 511, 1023, 2047, 4095, 8191, 16383, 32767, 65535, 131071, 262143, 131071, 655359, 1703935, 131071, 8388607, 16777215, 33554431, 67108863, 134217727, 268435455, 134217727, 671088639, 1744830463, 134217727, 8589934591, 17179869183, 34359738367, 68719476735]
theorem plexuslaw03_examples.tab6 : rtab .any (opsOf Try.f55 6) = plexuslaw03_examples.T6 := by kernel_rfl
theorem plexuslaw03_examples.bits6 : waitsOk plexuslaw03_examples.T6.2 plexuslaw03_examples.B6 = true := by kernel_rfl
set_option maxHeartbeats 8000000 in
set_option maxRecDepth 100000 in
theorem plexuslaw03_examples.calls (k : Nat)  (r : Bool) (w : World) (h : plexuslaw03_examples.f k  = some r) :
    Calls Try.prog 55 #[] w fun e w' => e = .returned (.bool r) ∧ Below w.heap.size w w' := by
  have hu80 := Try.underlying80
  have hu86 := Try.underlying86
  have hu83 := Try.underlying83
  have HB := Aside0.mk (Below.refl w.heap.size w)
  have H : ((some (([5, 6, 7] : List Int) : List Int)).bind fun y134 => ((plexuslaw03_opened.f k y134 2).bind fun bt137 => ((plexuslaw03_opened.f k y134 0).bind fun bt141 => ((plexuslaw03_opened.f k y134 3).bind fun bt145 => ((seal_Join.f 5 6).bind fun t152 => (if bt137.2 = 0 then (if bt141.2 = 0 then (if bt145.2 = 1 then ((plexusref03_Same.f k bt137.1 (([t152] : List Int))).bind fun t156 => (if t156 = true then ((plexusref03_Same.f k bt141.1 (([6, 7] : List Int))).bind fun t160 => (if t160 = true then (if 1 ≤ (y134.length : Int) then ((seal_Root.f k (y134.take 1)).bind fun t165 => (if t165 = 5 then (if 2 ≤ (y134.length : Int) then ((seal_Root.f k (y134.take 2)).bind fun t170 => (if t170 = t152 then ((seal_Root.f k y134).bind fun t171 => ((seal_Join.f t152 7).bind fun t172 => (if t171 = t172 then ((seal_Step.f 0 0).bind fun t173 => (if t173 = 0 then ((seal_Step.f 0 1).bind fun t174 => (if t174 = 0 then (none) else ((seal_Step.f 3 4).bind fun t175 => ((seal_Back.f k 3 t175).bind fun t176 => (if t176 = 4 then ((seal_Root.f k ([] : List Int)).bind fun t177 => ((seal_Words.f ([] : List Int)).bind fun t178 => (if t177 = t178 then ((seal_Root.f k y134).bind fun t179 => ((plexuslaw03_check.f k t179 3 bt137.1 2 7).bind fun t180 => (if t180 = 0 then ((seal_Root.f k y134).bind fun t181 => ((plexuslaw03_check.f k t181 3 bt141.1 2 7).bind fun t182 => (some (t182 == 6)))) else (none)))) else (none)))) else (none)))))) else (none))) else (none)))) else (none))) else (none)) else (none))) else (none)) else (none))) else (none))) else (none)) else (none)) else (none))))))) = some r := h
  clear h
  obtain ⟨y134, hy134⟩ : ∃ y_ : List Int, y_ = (([5, 6, 7] : List Int)) := ⟨_, rfl⟩
  replace H : ((plexuslaw03_opened.f k y134 2).bind fun bt137 => ((plexuslaw03_opened.f k y134 0).bind fun bt141 => ((plexuslaw03_opened.f k y134 3).bind fun bt145 => ((seal_Join.f 5 6).bind fun t152 => (if bt137.2 = 0 then (if bt141.2 = 0 then (if bt145.2 = 1 then ((plexusref03_Same.f k bt137.1 (([t152] : List Int))).bind fun t156 => (if t156 = true then ((plexusref03_Same.f k bt141.1 (([6, 7] : List Int))).bind fun t160 => (if t160 = true then (if 1 ≤ (y134.length : Int) then ((seal_Root.f k (y134.take 1)).bind fun t165 => (if t165 = 5 then (if 2 ≤ (y134.length : Int) then ((seal_Root.f k (y134.take 2)).bind fun t170 => (if t170 = t152 then ((seal_Root.f k y134).bind fun t171 => ((seal_Join.f t152 7).bind fun t172 => (if t171 = t172 then ((seal_Step.f 0 0).bind fun t173 => (if t173 = 0 then ((seal_Step.f 0 1).bind fun t174 => (if t174 = 0 then (none) else ((seal_Step.f 3 4).bind fun t175 => ((seal_Back.f k 3 t175).bind fun t176 => (if t176 = 4 then ((seal_Root.f k ([] : List Int)).bind fun t177 => ((seal_Words.f ([] : List Int)).bind fun t178 => (if t177 = t178 then ((seal_Root.f k y134).bind fun t179 => ((plexuslaw03_check.f k t179 3 bt137.1 2 7).bind fun t180 => (if t180 = 0 then ((seal_Root.f k y134).bind fun t181 => ((plexuslaw03_check.f k t181 3 bt141.1 2 7).bind fun t182 => (some (t182 == 6)))) else (none)))) else (none)))) else (none)))))) else (none))) else (none)))) else (none))) else (none)) else (none))) else (none)) else (none))) else (none))) else (none)) else (none)) else (none)))))) = some r := by first | (rw [hy134]; with_reducible exact H) | (have H2_ := (Option.bind_some _ _).symm.trans H; rw [hy134]; with_reducible exact H2_) | (have H2_ := (Option.bind_some _ _).symm.trans H; with_reducible exact H2_) | with_reducible exact H | (rw [hy134]; exact H) | exact H
  have Ny134 := Aside0.mk hy134
  clear hy134
  replace H := Option.bind_eq_some_iff.mp H
  obtain ⟨⟨t137, t140⟩, A10, H⟩ := H
  replace H : ((plexuslaw03_opened.f k y134 0).bind fun bt141 => ((plexuslaw03_opened.f k y134 3).bind fun bt145 => ((seal_Join.f 5 6).bind fun t152 => (if t140 = 0 then (if bt141.2 = 0 then (if bt145.2 = 1 then ((plexusref03_Same.f k t137 (([t152] : List Int))).bind fun t156 => (if t156 = true then ((plexusref03_Same.f k bt141.1 (([6, 7] : List Int))).bind fun t160 => (if t160 = true then (if 1 ≤ (y134.length : Int) then ((seal_Root.f k (y134.take 1)).bind fun t165 => (if t165 = 5 then (if 2 ≤ (y134.length : Int) then ((seal_Root.f k (y134.take 2)).bind fun t170 => (if t170 = t152 then ((seal_Root.f k y134).bind fun t171 => ((seal_Join.f t152 7).bind fun t172 => (if t171 = t172 then ((seal_Step.f 0 0).bind fun t173 => (if t173 = 0 then ((seal_Step.f 0 1).bind fun t174 => (if t174 = 0 then (none) else ((seal_Step.f 3 4).bind fun t175 => ((seal_Back.f k 3 t175).bind fun t176 => (if t176 = 4 then ((seal_Root.f k ([] : List Int)).bind fun t177 => ((seal_Words.f ([] : List Int)).bind fun t178 => (if t177 = t178 then ((seal_Root.f k y134).bind fun t179 => ((plexuslaw03_check.f k t179 3 t137 2 7).bind fun t180 => (if t180 = 0 then ((seal_Root.f k y134).bind fun t181 => ((plexuslaw03_check.f k t181 3 bt141.1 2 7).bind fun t182 => (some (t182 == 6)))) else (none)))) else (none)))) else (none)))))) else (none))) else (none)))) else (none))) else (none)) else (none))) else (none)) else (none))) else (none))) else (none)) else (none)) else (none))))) = some r := H
  have A1 := Aside0.mk A10
  clear A10
  replace H := Option.bind_eq_some_iff.mp H
  obtain ⟨⟨t141, t144⟩, A20, H⟩ := H
  replace H : ((plexuslaw03_opened.f k y134 3).bind fun bt145 => ((seal_Join.f 5 6).bind fun t152 => (if t140 = 0 then (if t144 = 0 then (if bt145.2 = 1 then ((plexusref03_Same.f k t137 (([t152] : List Int))).bind fun t156 => (if t156 = true then ((plexusref03_Same.f k t141 (([6, 7] : List Int))).bind fun t160 => (if t160 = true then (if 1 ≤ (y134.length : Int) then ((seal_Root.f k (y134.take 1)).bind fun t165 => (if t165 = 5 then (if 2 ≤ (y134.length : Int) then ((seal_Root.f k (y134.take 2)).bind fun t170 => (if t170 = t152 then ((seal_Root.f k y134).bind fun t171 => ((seal_Join.f t152 7).bind fun t172 => (if t171 = t172 then ((seal_Step.f 0 0).bind fun t173 => (if t173 = 0 then ((seal_Step.f 0 1).bind fun t174 => (if t174 = 0 then (none) else ((seal_Step.f 3 4).bind fun t175 => ((seal_Back.f k 3 t175).bind fun t176 => (if t176 = 4 then ((seal_Root.f k ([] : List Int)).bind fun t177 => ((seal_Words.f ([] : List Int)).bind fun t178 => (if t177 = t178 then ((seal_Root.f k y134).bind fun t179 => ((plexuslaw03_check.f k t179 3 t137 2 7).bind fun t180 => (if t180 = 0 then ((seal_Root.f k y134).bind fun t181 => ((plexuslaw03_check.f k t181 3 t141 2 7).bind fun t182 => (some (t182 == 6)))) else (none)))) else (none)))) else (none)))))) else (none))) else (none)))) else (none))) else (none)) else (none))) else (none)) else (none))) else (none))) else (none)) else (none)) else (none)))) = some r := H
  have A2 := Aside0.mk A20
  clear A20
  replace H := Option.bind_eq_some_iff.mp H
  obtain ⟨⟨t145, t148⟩, A30, H⟩ := H
  replace H : ((seal_Join.f 5 6).bind fun t152 => (if t140 = 0 then (if t144 = 0 then (if t148 = 1 then ((plexusref03_Same.f k t137 (([t152] : List Int))).bind fun t156 => (if t156 = true then ((plexusref03_Same.f k t141 (([6, 7] : List Int))).bind fun t160 => (if t160 = true then (if 1 ≤ (y134.length : Int) then ((seal_Root.f k (y134.take 1)).bind fun t165 => (if t165 = 5 then (if 2 ≤ (y134.length : Int) then ((seal_Root.f k (y134.take 2)).bind fun t170 => (if t170 = t152 then ((seal_Root.f k y134).bind fun t171 => ((seal_Join.f t152 7).bind fun t172 => (if t171 = t172 then ((seal_Step.f 0 0).bind fun t173 => (if t173 = 0 then ((seal_Step.f 0 1).bind fun t174 => (if t174 = 0 then (none) else ((seal_Step.f 3 4).bind fun t175 => ((seal_Back.f k 3 t175).bind fun t176 => (if t176 = 4 then ((seal_Root.f k ([] : List Int)).bind fun t177 => ((seal_Words.f ([] : List Int)).bind fun t178 => (if t177 = t178 then ((seal_Root.f k y134).bind fun t179 => ((plexuslaw03_check.f k t179 3 t137 2 7).bind fun t180 => (if t180 = 0 then ((seal_Root.f k y134).bind fun t181 => ((plexuslaw03_check.f k t181 3 t141 2 7).bind fun t182 => (some (t182 == 6)))) else (none)))) else (none)))) else (none)))))) else (none))) else (none)))) else (none))) else (none)) else (none))) else (none)) else (none))) else (none))) else (none)) else (none)) else (none))) = some r := H
  have A3 := Aside0.mk A30
  clear A30
  replace H := Option.bind_eq_some_iff.mp H
  obtain ⟨t152, A40, H⟩ := H
  replace H : (if t140 = 0 then (if t144 = 0 then (if t148 = 1 then ((plexusref03_Same.f k t137 (([t152] : List Int))).bind fun t156 => (if t156 = true then ((plexusref03_Same.f k t141 (([6, 7] : List Int))).bind fun t160 => (if t160 = true then (if 1 ≤ (y134.length : Int) then ((seal_Root.f k (y134.take 1)).bind fun t165 => (if t165 = 5 then (if 2 ≤ (y134.length : Int) then ((seal_Root.f k (y134.take 2)).bind fun t170 => (if t170 = t152 then ((seal_Root.f k y134).bind fun t171 => ((seal_Join.f t152 7).bind fun t172 => (if t171 = t172 then ((seal_Step.f 0 0).bind fun t173 => (if t173 = 0 then ((seal_Step.f 0 1).bind fun t174 => (if t174 = 0 then (none) else ((seal_Step.f 3 4).bind fun t175 => ((seal_Back.f k 3 t175).bind fun t176 => (if t176 = 4 then ((seal_Root.f k ([] : List Int)).bind fun t177 => ((seal_Words.f ([] : List Int)).bind fun t178 => (if t177 = t178 then ((seal_Root.f k y134).bind fun t179 => ((plexuslaw03_check.f k t179 3 t137 2 7).bind fun t180 => (if t180 = 0 then ((seal_Root.f k y134).bind fun t181 => ((plexuslaw03_check.f k t181 3 t141 2 7).bind fun t182 => (some (t182 == 6)))) else (none)))) else (none)))) else (none)))))) else (none))) else (none)))) else (none))) else (none)) else (none))) else (none)) else (none))) else (none))) else (none)) else (none)) else (none)) = some r := H
  have A4 := Aside0.mk A40
  clear A40
  by_cases c5 : t140 = 0
  · rw [if_pos c5] at H
    have c5b0 : (t140 == 0) = true := beq_iff_eq.mpr c5
    have c5b1 : (t140 != 0) = false := bne_eq_false_iff_eq.mpr c5
    clear c5
    by_cases c6 : t144 = 0
    · rw [if_pos c6] at H
      have c6b0 : (t144 == 0) = true := beq_iff_eq.mpr c6
      have c6b1 : (t144 != 0) = false := bne_eq_false_iff_eq.mpr c6
      clear c6
      by_cases c7 : t148 = 1
      · rw [if_pos c7] at H
        have c7b0 : (t148 == 1) = true := beq_iff_eq.mpr c7
        have c7b1 : (t148 != 1) = false := bne_eq_false_iff_eq.mpr c7
        clear c7
        obtain ⟨y153, hy153⟩ : ∃ y_ : List Int, y_ = (([t152] : List Int)) := ⟨_, rfl⟩
        replace H : ((plexusref03_Same.f k t137 y153).bind fun t156 => (if t156 = true then ((plexusref03_Same.f k t141 (([6, 7] : List Int))).bind fun t160 => (if t160 = true then (if 1 ≤ (y134.length : Int) then ((seal_Root.f k (y134.take 1)).bind fun t165 => (if t165 = 5 then (if 2 ≤ (y134.length : Int) then ((seal_Root.f k (y134.take 2)).bind fun t170 => (if t170 = t152 then ((seal_Root.f k y134).bind fun t171 => ((seal_Join.f t152 7).bind fun t172 => (if t171 = t172 then ((seal_Step.f 0 0).bind fun t173 => (if t173 = 0 then ((seal_Step.f 0 1).bind fun t174 => (if t174 = 0 then (none) else ((seal_Step.f 3 4).bind fun t175 => ((seal_Back.f k 3 t175).bind fun t176 => (if t176 = 4 then ((seal_Root.f k ([] : List Int)).bind fun t177 => ((seal_Words.f ([] : List Int)).bind fun t178 => (if t177 = t178 then ((seal_Root.f k y134).bind fun t179 => ((plexuslaw03_check.f k t179 3 t137 2 7).bind fun t180 => (if t180 = 0 then ((seal_Root.f k y134).bind fun t181 => ((plexuslaw03_check.f k t181 3 t141 2 7).bind fun t182 => (some (t182 == 6)))) else (none)))) else (none)))) else (none)))))) else (none))) else (none)))) else (none))) else (none)) else (none))) else (none)) else (none))) else (none))) = some r := by first | (rw [hy153]; with_reducible exact H) | (have H2_ := (Option.bind_some _ _).symm.trans H; rw [hy153]; with_reducible exact H2_) | (have H2_ := (Option.bind_some _ _).symm.trans H; with_reducible exact H2_) | with_reducible exact H | (rw [hy153]; exact H) | exact H
        have Ny153 := Aside0.mk hy153
        clear hy153
        replace H := Option.bind_eq_some_iff.mp H
        obtain ⟨t156, A80, H⟩ := H
        replace H : (if t156 = true then ((plexusref03_Same.f k t141 (([6, 7] : List Int))).bind fun t160 => (if t160 = true then (if 1 ≤ (y134.length : Int) then ((seal_Root.f k (y134.take 1)).bind fun t165 => (if t165 = 5 then (if 2 ≤ (y134.length : Int) then ((seal_Root.f k (y134.take 2)).bind fun t170 => (if t170 = t152 then ((seal_Root.f k y134).bind fun t171 => ((seal_Join.f t152 7).bind fun t172 => (if t171 = t172 then ((seal_Step.f 0 0).bind fun t173 => (if t173 = 0 then ((seal_Step.f 0 1).bind fun t174 => (if t174 = 0 then (none) else ((seal_Step.f 3 4).bind fun t175 => ((seal_Back.f k 3 t175).bind fun t176 => (if t176 = 4 then ((seal_Root.f k ([] : List Int)).bind fun t177 => ((seal_Words.f ([] : List Int)).bind fun t178 => (if t177 = t178 then ((seal_Root.f k y134).bind fun t179 => ((plexuslaw03_check.f k t179 3 t137 2 7).bind fun t180 => (if t180 = 0 then ((seal_Root.f k y134).bind fun t181 => ((plexuslaw03_check.f k t181 3 t141 2 7).bind fun t182 => (some (t182 == 6)))) else (none)))) else (none)))) else (none)))))) else (none))) else (none)))) else (none))) else (none)) else (none))) else (none)) else (none))) else (none)) = some r := H
        have A8 := Aside0.mk A80
        clear A80
        by_cases c9 : t156 = true
        · subst c9
          have H1 : ((plexusref03_Same.f k t141 (([6, 7] : List Int))).bind fun t160 => (if t160 = true then (if 1 ≤ (y134.length : Int) then ((seal_Root.f k (y134.take 1)).bind fun t165 => (if t165 = 5 then (if 2 ≤ (y134.length : Int) then ((seal_Root.f k (y134.take 2)).bind fun t170 => (if t170 = t152 then ((seal_Root.f k y134).bind fun t171 => ((seal_Join.f t152 7).bind fun t172 => (if t171 = t172 then ((seal_Step.f 0 0).bind fun t173 => (if t173 = 0 then ((seal_Step.f 0 1).bind fun t174 => (if t174 = 0 then (none) else ((seal_Step.f 3 4).bind fun t175 => ((seal_Back.f k 3 t175).bind fun t176 => (if t176 = 4 then ((seal_Root.f k ([] : List Int)).bind fun t177 => ((seal_Words.f ([] : List Int)).bind fun t178 => (if t177 = t178 then ((seal_Root.f k y134).bind fun t179 => ((plexuslaw03_check.f k t179 3 t137 2 7).bind fun t180 => (if t180 = 0 then ((seal_Root.f k y134).bind fun t181 => ((plexuslaw03_check.f k t181 3 t141 2 7).bind fun t182 => (some (t182 == 6)))) else (none)))) else (none)))) else (none)))))) else (none))) else (none)))) else (none))) else (none)) else (none))) else (none)) else (none))) = some r := by rw [if_pos rfl] at H; exact H
          clear H
          have H := H1
          clear H1
          obtain ⟨y157, hy157⟩ : ∃ y_ : List Int, y_ = (([6, 7] : List Int)) := ⟨_, rfl⟩
          replace H : ((plexusref03_Same.f k t141 y157).bind fun t160 => (if t160 = true then (if 1 ≤ (y134.length : Int) then ((seal_Root.f k (y134.take 1)).bind fun t165 => (if t165 = 5 then (if 2 ≤ (y134.length : Int) then ((seal_Root.f k (y134.take 2)).bind fun t170 => (if t170 = t152 then ((seal_Root.f k y134).bind fun t171 => ((seal_Join.f t152 7).bind fun t172 => (if t171 = t172 then ((seal_Step.f 0 0).bind fun t173 => (if t173 = 0 then ((seal_Step.f 0 1).bind fun t174 => (if t174 = 0 then (none) else ((seal_Step.f 3 4).bind fun t175 => ((seal_Back.f k 3 t175).bind fun t176 => (if t176 = 4 then ((seal_Root.f k ([] : List Int)).bind fun t177 => ((seal_Words.f ([] : List Int)).bind fun t178 => (if t177 = t178 then ((seal_Root.f k y134).bind fun t179 => ((plexuslaw03_check.f k t179 3 t137 2 7).bind fun t180 => (if t180 = 0 then ((seal_Root.f k y134).bind fun t181 => ((plexuslaw03_check.f k t181 3 t141 2 7).bind fun t182 => (some (t182 == 6)))) else (none)))) else (none)))) else (none)))))) else (none))) else (none)))) else (none))) else (none)) else (none))) else (none)) else (none))) = some r := by first | (rw [hy157]; with_reducible exact H) | (have H2_ := (Option.bind_some _ _).symm.trans H; rw [hy157]; with_reducible exact H2_) | (have H2_ := (Option.bind_some _ _).symm.trans H; with_reducible exact H2_) | with_reducible exact H | (rw [hy157]; exact H) | exact H
          have Ny157 := Aside0.mk hy157
          clear hy157
          replace H := Option.bind_eq_some_iff.mp H
          obtain ⟨t160, A100, H⟩ := H
          replace H : (if t160 = true then (if 1 ≤ (y134.length : Int) then ((seal_Root.f k (y134.take 1)).bind fun t165 => (if t165 = 5 then (if 2 ≤ (y134.length : Int) then ((seal_Root.f k (y134.take 2)).bind fun t170 => (if t170 = t152 then ((seal_Root.f k y134).bind fun t171 => ((seal_Join.f t152 7).bind fun t172 => (if t171 = t172 then ((seal_Step.f 0 0).bind fun t173 => (if t173 = 0 then ((seal_Step.f 0 1).bind fun t174 => (if t174 = 0 then (none) else ((seal_Step.f 3 4).bind fun t175 => ((seal_Back.f k 3 t175).bind fun t176 => (if t176 = 4 then ((seal_Root.f k ([] : List Int)).bind fun t177 => ((seal_Words.f ([] : List Int)).bind fun t178 => (if t177 = t178 then ((seal_Root.f k y134).bind fun t179 => ((plexuslaw03_check.f k t179 3 t137 2 7).bind fun t180 => (if t180 = 0 then ((seal_Root.f k y134).bind fun t181 => ((plexuslaw03_check.f k t181 3 t141 2 7).bind fun t182 => (some (t182 == 6)))) else (none)))) else (none)))) else (none)))))) else (none))) else (none)))) else (none))) else (none)) else (none))) else (none)) else (none)) = some r := H
          have A10 := Aside0.mk A100
          clear A100
          by_cases c11 : t160 = true
          · subst c11
            have H1 : (if 1 ≤ (y134.length : Int) then ((seal_Root.f k (y134.take 1)).bind fun t165 => (if t165 = 5 then (if 2 ≤ (y134.length : Int) then ((seal_Root.f k (y134.take 2)).bind fun t170 => (if t170 = t152 then ((seal_Root.f k y134).bind fun t171 => ((seal_Join.f t152 7).bind fun t172 => (if t171 = t172 then ((seal_Step.f 0 0).bind fun t173 => (if t173 = 0 then ((seal_Step.f 0 1).bind fun t174 => (if t174 = 0 then (none) else ((seal_Step.f 3 4).bind fun t175 => ((seal_Back.f k 3 t175).bind fun t176 => (if t176 = 4 then ((seal_Root.f k ([] : List Int)).bind fun t177 => ((seal_Words.f ([] : List Int)).bind fun t178 => (if t177 = t178 then ((seal_Root.f k y134).bind fun t179 => ((plexuslaw03_check.f k t179 3 t137 2 7).bind fun t180 => (if t180 = 0 then ((seal_Root.f k y134).bind fun t181 => ((plexuslaw03_check.f k t181 3 t141 2 7).bind fun t182 => (some (t182 == 6)))) else (none)))) else (none)))) else (none)))))) else (none))) else (none)))) else (none))) else (none)) else (none))) else (none)) = some r := by rw [if_pos rfl] at H; exact H
            clear H
            have H := H1
            clear H1
            by_cases c12 : 1 ≤ (y134.length : Int)
            · rw [if_pos c12] at H
              have c12b0 := eq_true c12
              have c12b1 : decide (1 ≤ (y134.length : Int)) = true := decide_eq_true c12
              clear c12
              obtain ⟨y161, hy161⟩ : ∃ y_ : List Int, y_ = (y134.take 1) := ⟨_, rfl⟩
              replace H : ((seal_Root.f k y161).bind fun t165 => (if t165 = 5 then (if 2 ≤ (y134.length : Int) then ((seal_Root.f k (y134.take 2)).bind fun t170 => (if t170 = t152 then ((seal_Root.f k y134).bind fun t171 => ((seal_Join.f t152 7).bind fun t172 => (if t171 = t172 then ((seal_Step.f 0 0).bind fun t173 => (if t173 = 0 then ((seal_Step.f 0 1).bind fun t174 => (if t174 = 0 then (none) else ((seal_Step.f 3 4).bind fun t175 => ((seal_Back.f k 3 t175).bind fun t176 => (if t176 = 4 then ((seal_Root.f k ([] : List Int)).bind fun t177 => ((seal_Words.f ([] : List Int)).bind fun t178 => (if t177 = t178 then ((seal_Root.f k y134).bind fun t179 => ((plexuslaw03_check.f k t179 3 t137 2 7).bind fun t180 => (if t180 = 0 then ((seal_Root.f k y134).bind fun t181 => ((plexuslaw03_check.f k t181 3 t141 2 7).bind fun t182 => (some (t182 == 6)))) else (none)))) else (none)))) else (none)))))) else (none))) else (none)))) else (none))) else (none)) else (none))) = some r := by first | (rw [hy161]; with_reducible exact H) | (have H2_ := (Option.bind_some _ _).symm.trans H; rw [hy161]; with_reducible exact H2_) | (have H2_ := (Option.bind_some _ _).symm.trans H; with_reducible exact H2_) | with_reducible exact H | (rw [hy161]; exact H) | exact H
              have Ny161 := Aside0.mk hy161
              clear hy161
              replace H := Option.bind_eq_some_iff.mp H
              obtain ⟨t165, A130, H⟩ := H
              replace H : (if t165 = 5 then (if 2 ≤ (y134.length : Int) then ((seal_Root.f k (y134.take 2)).bind fun t170 => (if t170 = t152 then ((seal_Root.f k y134).bind fun t171 => ((seal_Join.f t152 7).bind fun t172 => (if t171 = t172 then ((seal_Step.f 0 0).bind fun t173 => (if t173 = 0 then ((seal_Step.f 0 1).bind fun t174 => (if t174 = 0 then (none) else ((seal_Step.f 3 4).bind fun t175 => ((seal_Back.f k 3 t175).bind fun t176 => (if t176 = 4 then ((seal_Root.f k ([] : List Int)).bind fun t177 => ((seal_Words.f ([] : List Int)).bind fun t178 => (if t177 = t178 then ((seal_Root.f k y134).bind fun t179 => ((plexuslaw03_check.f k t179 3 t137 2 7).bind fun t180 => (if t180 = 0 then ((seal_Root.f k y134).bind fun t181 => ((plexuslaw03_check.f k t181 3 t141 2 7).bind fun t182 => (some (t182 == 6)))) else (none)))) else (none)))) else (none)))))) else (none))) else (none)))) else (none))) else (none)) else (none)) = some r := H
              have A13 := Aside0.mk A130
              clear A130
              by_cases c14 : t165 = 5
              · rw [if_pos c14] at H
                have c14b0 : (t165 == 5) = true := beq_iff_eq.mpr c14
                have c14b1 : (t165 != 5) = false := bne_eq_false_iff_eq.mpr c14
                clear c14
                by_cases c15 : 2 ≤ (y134.length : Int)
                · rw [if_pos c15] at H
                  have c15b0 := eq_true c15
                  have c15b1 : decide (2 ≤ (y134.length : Int)) = true := decide_eq_true c15
                  clear c15
                  obtain ⟨y166, hy166⟩ : ∃ y_ : List Int, y_ = (y134.take 2) := ⟨_, rfl⟩
                  replace H : ((seal_Root.f k y166).bind fun t170 => (if t170 = t152 then ((seal_Root.f k y134).bind fun t171 => ((seal_Join.f t152 7).bind fun t172 => (if t171 = t172 then ((seal_Step.f 0 0).bind fun t173 => (if t173 = 0 then ((seal_Step.f 0 1).bind fun t174 => (if t174 = 0 then (none) else ((seal_Step.f 3 4).bind fun t175 => ((seal_Back.f k 3 t175).bind fun t176 => (if t176 = 4 then ((seal_Root.f k ([] : List Int)).bind fun t177 => ((seal_Words.f ([] : List Int)).bind fun t178 => (if t177 = t178 then ((seal_Root.f k y134).bind fun t179 => ((plexuslaw03_check.f k t179 3 t137 2 7).bind fun t180 => (if t180 = 0 then ((seal_Root.f k y134).bind fun t181 => ((plexuslaw03_check.f k t181 3 t141 2 7).bind fun t182 => (some (t182 == 6)))) else (none)))) else (none)))) else (none)))))) else (none))) else (none)))) else (none))) = some r := by first | (rw [hy166]; with_reducible exact H) | (have H2_ := (Option.bind_some _ _).symm.trans H; rw [hy166]; with_reducible exact H2_) | (have H2_ := (Option.bind_some _ _).symm.trans H; with_reducible exact H2_) | with_reducible exact H | (rw [hy166]; exact H) | exact H
                  have Ny166 := Aside0.mk hy166
                  clear hy166
                  replace H := Option.bind_eq_some_iff.mp H
                  obtain ⟨t170, A160, H⟩ := H
                  replace H : (if t170 = t152 then ((seal_Root.f k y134).bind fun t171 => ((seal_Join.f t152 7).bind fun t172 => (if t171 = t172 then ((seal_Step.f 0 0).bind fun t173 => (if t173 = 0 then ((seal_Step.f 0 1).bind fun t174 => (if t174 = 0 then (none) else ((seal_Step.f 3 4).bind fun t175 => ((seal_Back.f k 3 t175).bind fun t176 => (if t176 = 4 then ((seal_Root.f k ([] : List Int)).bind fun t177 => ((seal_Words.f ([] : List Int)).bind fun t178 => (if t177 = t178 then ((seal_Root.f k y134).bind fun t179 => ((plexuslaw03_check.f k t179 3 t137 2 7).bind fun t180 => (if t180 = 0 then ((seal_Root.f k y134).bind fun t181 => ((plexuslaw03_check.f k t181 3 t141 2 7).bind fun t182 => (some (t182 == 6)))) else (none)))) else (none)))) else (none)))))) else (none))) else (none)))) else (none)) = some r := H
                  have A16 := Aside0.mk A160
                  clear A160
                  by_cases c17 : t170 = t152
                  · rw [if_pos c17] at H
                    have c17b0 : (t170 == t152) = true := beq_iff_eq.mpr c17
                    have c17b1 : (t170 != t152) = false := bne_eq_false_iff_eq.mpr c17
                    clear c17
                    replace H := Option.bind_eq_some_iff.mp H
                    obtain ⟨t171, A180, H⟩ := H
                    replace H : ((seal_Join.f t152 7).bind fun t172 => (if t171 = t172 then ((seal_Step.f 0 0).bind fun t173 => (if t173 = 0 then ((seal_Step.f 0 1).bind fun t174 => (if t174 = 0 then (none) else ((seal_Step.f 3 4).bind fun t175 => ((seal_Back.f k 3 t175).bind fun t176 => (if t176 = 4 then ((seal_Root.f k ([] : List Int)).bind fun t177 => ((seal_Words.f ([] : List Int)).bind fun t178 => (if t177 = t178 then ((seal_Root.f k y134).bind fun t179 => ((plexuslaw03_check.f k t179 3 t137 2 7).bind fun t180 => (if t180 = 0 then ((seal_Root.f k y134).bind fun t181 => ((plexuslaw03_check.f k t181 3 t141 2 7).bind fun t182 => (some (t182 == 6)))) else (none)))) else (none)))) else (none)))))) else (none))) else (none))) = some r := H
                    have A18 := Aside0.mk A180
                    clear A180
                    replace H := Option.bind_eq_some_iff.mp H
                    obtain ⟨t172, A190, H⟩ := H
                    replace H : (if t171 = t172 then ((seal_Step.f 0 0).bind fun t173 => (if t173 = 0 then ((seal_Step.f 0 1).bind fun t174 => (if t174 = 0 then (none) else ((seal_Step.f 3 4).bind fun t175 => ((seal_Back.f k 3 t175).bind fun t176 => (if t176 = 4 then ((seal_Root.f k ([] : List Int)).bind fun t177 => ((seal_Words.f ([] : List Int)).bind fun t178 => (if t177 = t178 then ((seal_Root.f k y134).bind fun t179 => ((plexuslaw03_check.f k t179 3 t137 2 7).bind fun t180 => (if t180 = 0 then ((seal_Root.f k y134).bind fun t181 => ((plexuslaw03_check.f k t181 3 t141 2 7).bind fun t182 => (some (t182 == 6)))) else (none)))) else (none)))) else (none)))))) else (none))) else (none)) = some r := H
                    have A19 := Aside0.mk A190
                    clear A190
                    by_cases c20 : t171 = t172
                    · rw [if_pos c20] at H
                      have c20b0 : (t171 == t172) = true := beq_iff_eq.mpr c20
                      have c20b1 : (t171 != t172) = false := bne_eq_false_iff_eq.mpr c20
                      clear c20
                      replace H := Option.bind_eq_some_iff.mp H
                      obtain ⟨t173, A210, H⟩ := H
                      replace H : (if t173 = 0 then ((seal_Step.f 0 1).bind fun t174 => (if t174 = 0 then (none) else ((seal_Step.f 3 4).bind fun t175 => ((seal_Back.f k 3 t175).bind fun t176 => (if t176 = 4 then ((seal_Root.f k ([] : List Int)).bind fun t177 => ((seal_Words.f ([] : List Int)).bind fun t178 => (if t177 = t178 then ((seal_Root.f k y134).bind fun t179 => ((plexuslaw03_check.f k t179 3 t137 2 7).bind fun t180 => (if t180 = 0 then ((seal_Root.f k y134).bind fun t181 => ((plexuslaw03_check.f k t181 3 t141 2 7).bind fun t182 => (some (t182 == 6)))) else (none)))) else (none)))) else (none)))))) else (none)) = some r := H
                      have A21 := Aside0.mk A210
                      clear A210
                      by_cases c22 : t173 = 0
                      · rw [if_pos c22] at H
                        have c22b0 : (t173 == 0) = true := beq_iff_eq.mpr c22
                        have c22b1 : (t173 != 0) = false := bne_eq_false_iff_eq.mpr c22
                        clear c22
                        replace H := Option.bind_eq_some_iff.mp H
                        obtain ⟨t174, A230, H⟩ := H
                        replace H : (if t174 = 0 then (none) else ((seal_Step.f 3 4).bind fun t175 => ((seal_Back.f k 3 t175).bind fun t176 => (if t176 = 4 then ((seal_Root.f k ([] : List Int)).bind fun t177 => ((seal_Words.f ([] : List Int)).bind fun t178 => (if t177 = t178 then ((seal_Root.f k y134).bind fun t179 => ((plexuslaw03_check.f k t179 3 t137 2 7).bind fun t180 => (if t180 = 0 then ((seal_Root.f k y134).bind fun t181 => ((plexuslaw03_check.f k t181 3 t141 2 7).bind fun t182 => (some (t182 == 6)))) else (none)))) else (none)))) else (none))))) = some r := H
                        have A23 := Aside0.mk A230
                        clear A230
                        by_cases c24 : t174 = 0
                        · rw [if_pos c24] at H
                          have c24b0 : (t174 == 0) = true := beq_iff_eq.mpr c24
                          have c24b1 : (t174 != 0) = false := bne_eq_false_iff_eq.mpr c24
                          clear c24
                          exact absurd H (by simp)
                        · rw [if_neg c24] at H
                          have c24b0 : (t174 == 0) = false := beq_eq_false_iff_ne.mpr c24
                          have c24b1 : (t174 != 0) = true := bne_iff_ne.mpr c24
                          replace H := Option.bind_eq_some_iff.mp H
                          obtain ⟨t175, A250, H⟩ := H
                          replace H : ((seal_Back.f k 3 t175).bind fun t176 => (if t176 = 4 then ((seal_Root.f k ([] : List Int)).bind fun t177 => ((seal_Words.f ([] : List Int)).bind fun t178 => (if t177 = t178 then ((seal_Root.f k y134).bind fun t179 => ((plexuslaw03_check.f k t179 3 t137 2 7).bind fun t180 => (if t180 = 0 then ((seal_Root.f k y134).bind fun t181 => ((plexuslaw03_check.f k t181 3 t141 2 7).bind fun t182 => (some (t182 == 6)))) else (none)))) else (none)))) else (none))) = some r := H
                          have A25 := Aside0.mk A250
                          clear A250
                          replace H := Option.bind_eq_some_iff.mp H
                          obtain ⟨t176, A260, H⟩ := H
                          replace H : (if t176 = 4 then ((seal_Root.f k ([] : List Int)).bind fun t177 => ((seal_Words.f ([] : List Int)).bind fun t178 => (if t177 = t178 then ((seal_Root.f k y134).bind fun t179 => ((plexuslaw03_check.f k t179 3 t137 2 7).bind fun t180 => (if t180 = 0 then ((seal_Root.f k y134).bind fun t181 => ((plexuslaw03_check.f k t181 3 t141 2 7).bind fun t182 => (some (t182 == 6)))) else (none)))) else (none)))) else (none)) = some r := H
                          have A26 := Aside0.mk A260
                          clear A260
                          by_cases c27 : t176 = 4
                          · rw [if_pos c27] at H
                            have c27b0 : (t176 == 4) = true := beq_iff_eq.mpr c27
                            have c27b1 : (t176 != 4) = false := bne_eq_false_iff_eq.mpr c27
                            clear c27
                            replace H := Option.bind_eq_some_iff.mp H
                            obtain ⟨t177, A280, H⟩ := H
                            replace H : ((seal_Words.f ([] : List Int)).bind fun t178 => (if t177 = t178 then ((seal_Root.f k y134).bind fun t179 => ((plexuslaw03_check.f k t179 3 t137 2 7).bind fun t180 => (if t180 = 0 then ((seal_Root.f k y134).bind fun t181 => ((plexuslaw03_check.f k t181 3 t141 2 7).bind fun t182 => (some (t182 == 6)))) else (none)))) else (none))) = some r := H
                            have A28 := Aside0.mk A280
                            clear A280
                            replace H := Option.bind_eq_some_iff.mp H
                            obtain ⟨t178, A290, H⟩ := H
                            replace H : (if t177 = t178 then ((seal_Root.f k y134).bind fun t179 => ((plexuslaw03_check.f k t179 3 t137 2 7).bind fun t180 => (if t180 = 0 then ((seal_Root.f k y134).bind fun t181 => ((plexuslaw03_check.f k t181 3 t141 2 7).bind fun t182 => (some (t182 == 6)))) else (none)))) else (none)) = some r := H
                            have A29 := Aside0.mk A290
                            clear A290
                            by_cases c30 : t177 = t178
                            · rw [if_pos c30] at H
                              have c30b0 : (t177 == t178) = true := beq_iff_eq.mpr c30
                              have c30b1 : (t177 != t178) = false := bne_eq_false_iff_eq.mpr c30
                              clear c30
                              replace H := Option.bind_eq_some_iff.mp H
                              obtain ⟨t179, A310, H⟩ := H
                              replace H : ((plexuslaw03_check.f k t179 3 t137 2 7).bind fun t180 => (if t180 = 0 then ((seal_Root.f k y134).bind fun t181 => ((plexuslaw03_check.f k t181 3 t141 2 7).bind fun t182 => (some (t182 == 6)))) else (none))) = some r := H
                              have A31 := Aside0.mk A310
                              clear A310
                              replace H := Option.bind_eq_some_iff.mp H
                              obtain ⟨t180, A320, H⟩ := H
                              replace H : (if t180 = 0 then ((seal_Root.f k y134).bind fun t181 => ((plexuslaw03_check.f k t181 3 t141 2 7).bind fun t182 => (some (t182 == 6)))) else (none)) = some r := H
                              have A32 := Aside0.mk A320
                              clear A320
                              by_cases c33 : t180 = 0
                              · rw [if_pos c33] at H
                                have c33b0 : (t180 == 0) = true := beq_iff_eq.mpr c33
                                have c33b1 : (t180 != 0) = false := bne_eq_false_iff_eq.mpr c33
                                clear c33
                                replace H := Option.bind_eq_some_iff.mp H
                                obtain ⟨t181, A340, H⟩ := H
                                replace H : ((plexuslaw03_check.f k t181 3 t141 2 7).bind fun t182 => (some (t182 == 6))) = some r := H
                                have A34 := Aside0.mk A340
                                clear A340
                                replace H := Option.bind_eq_some_iff.mp H
                                obtain ⟨t182, A350, H⟩ := H
                                replace H : (some (t182 == 6)) = some r := H
                                have A35 := Aside0.mk A350
                                clear A350
                                obtain rfl := Option.some.inj H
                                go_enter Try.func55, Try.ntmps55
                                try go_wp2_with (first | ((with_reducible refine gate_dst (N := 6) rfl ?_); (try (refine gate_guard (by rfl) ?_; dsimp only)); refine Kd.R_lit (Kd.int .u64) _ 72 ?hg (N := 6) ?hd (xs := ([5, 6, 7] : List Int)) (inner := [.int .u64 5, .int .u64 6, .int .u64 7]) (ok := fun _ => True) (okp := fun _ => True) ?hr ?hp (fun _ hk => hk) trivial (Below.refl _ _) (Nat.le_refl _) (by simp) ?_; (case hd => rfl); (case hg => rfl); (case hr => first | (go_simp; done) | (go_simp; rfl)); (case hp => exact (Reps.one (show Kd.M (Kd.int .u64) _ _ _ 5 [.int .u64 5] from rfl) (Reps.one (show Kd.M (Kd.int .u64) _ _ _ 6 [.int .u64 6] from rfl) (Reps.one (show Kd.M (Kd.int .u64) _ _ _ 7 [.int .u64 7] from rfl) (Reps.none _ _))))); intro v135 w36 ho37 hb hg_ hnew_; clear hg_ hnew_; (first | rw [← Ny134.out] at ho37 | (simp only [Int.reduceToNat] at ho37; rw [← Ny134.out] at ho37)); have n0_ := Aside0.mk (Kd.R_lower ho37 (below_size (by repeat (first | (with_reducible first | exact HB.out | apply below_alloc | apply pw_below_drewN | apply below_drew1) | exact HB.out)))); have n1_ := Aside0.mk (below_step (by repeat (first | (with_reducible first | exact HB.out | apply below_alloc | apply pw_below_drewN | apply below_drew1) | exact HB.out)) hb); clear HB; have HO136 := n0_; have HB := n1_; clear n0_ n1_; clear hb ho37; obtain ⟨Ao38, co38, eo38⟩ := Kd.R_slice HO136.out; subst eo38) | ((with_reducible refine gate_callee (f := 60) rfl ?_); refine goesL_ (some 8) rfl rfl Try.func60 (by kernel_rfl) rfl #[.slice Ao38 y134.length co38, .int .i64 2] rfl (by (try simp only [List.map_toArray, List.map_cons, List.map_nil]); first | done | rfl | (simp only [List.length_drop, List.length_take]; rfl)) ?_; (with_reducible refine (plexuslaw03_opened.calls k _ _ y134 2 t137 t140 _ ?side1 ?side2 A1.out).mono ?_); (case side1 => repeat (first | exact (Kd.R_reads' HO136.out).2.2 | (with_reducible refine Kd.C_alloc ?_ _) | (with_reducible refine Kd.C_drewN ?_ _) | (with_reducible refine Kd.C_drew ?_))); (case side2 => exact (Kd.R_reads' HO136.out).2.1); rintro e w39 ⟨v138, rfl, ho0, hb⟩; refine ⟨_, rfl, ?_⟩; have n0_ := Aside0.mk (Kd.R_elder' (by (with_reducible repeat (first | apply Kd.R_alloc | apply Kd.R_drewN | apply Kd.R_drew)); exact HO136.out) (Kd.R_base ho0) hb); have n1_ := Aside0.mk (Kd.R_lower (Kd.R_new' ho0 (Kd.R_lt (by (with_reducible repeat (first | apply Kd.R_alloc | apply Kd.R_drewN | apply Kd.R_drew)); exact HO136.out))) (below_size (by repeat (first | (with_reducible first | exact HB.out | apply below_alloc | apply pw_below_drewN | apply below_drew1) | exact HB.out)))); have n2_ := Aside0.mk (below_step (by repeat (first | (with_reducible first | exact HB.out | apply below_alloc | apply pw_below_drewN | apply below_drew1) | exact HB.out)) hb); clear HO136; clear HB; have HO136 := n0_; have HO139 := n1_; have HB := n2_; clear n0_ n1_ n2_; (try clear hb); (try clear hb2); (try clear hk); (try clear hi); (try clear ho0)) | ((with_reducible refine gate_callee (f := 60) rfl ?_); refine goesL_ (some 10) rfl rfl Try.func60 (by kernel_rfl) rfl #[.slice Ao38 y134.length co38, .int .i64 0] rfl (by (try simp only [List.map_toArray, List.map_cons, List.map_nil]); first | done | rfl | (simp only [List.length_drop, List.length_take]; rfl)) ?_; (with_reducible refine (plexuslaw03_opened.calls k _ _ y134 0 t141 t144 _ ?side1 ?side2 A2.out).mono ?_); (case side1 => repeat (first | exact (Kd.R_reads' HO136.out).2.2 | (with_reducible refine Kd.C_alloc ?_ _) | (with_reducible refine Kd.C_drewN ?_ _) | (with_reducible refine Kd.C_drew ?_))); (case side2 => exact (Kd.R_reads' HO136.out).2.1); rintro e w40 ⟨v142, rfl, ho0, hb⟩; refine ⟨_, rfl, ?_⟩; have n0_ := Aside0.mk (Kd.R_elder' (by (with_reducible repeat (first | apply Kd.R_alloc | apply Kd.R_drewN | apply Kd.R_drew)); exact HO136.out) (Kd.R_base ho0) hb); have n1_ := Aside0.mk (Kd.R_elder' (by (with_reducible repeat (first | apply Kd.R_alloc | apply Kd.R_drewN | apply Kd.R_drew)); exact HO139.out) (Kd.R_base ho0) hb); have n2_ := Aside0.mk (Kd.R_lower (Kd.R_new' (Kd.R_new' ho0 (Kd.R_lt (by (with_reducible repeat (first | apply Kd.R_alloc | apply Kd.R_drewN | apply Kd.R_drew)); exact HO136.out))) (Kd.R_lt (by (with_reducible repeat (first | apply Kd.R_alloc | apply Kd.R_drewN | apply Kd.R_drew)); exact HO139.out))) (below_size (by repeat (first | (with_reducible first | exact HB.out | apply below_alloc | apply pw_below_drewN | apply below_drew1) | exact HB.out)))); have n3_ := Aside0.mk (below_step (by repeat (first | (with_reducible first | exact HB.out | apply below_alloc | apply pw_below_drewN | apply below_drew1) | exact HB.out)) hb); clear HO136; clear HO139; clear HB; have HO136 := n0_; have HO139 := n1_; have HO143 := n2_; have HB := n3_; clear n0_ n1_ n2_ n3_; (try clear hb); (try clear hb2); (try clear hk); (try clear hi); (try clear ho0)) | ((with_reducible refine gate_callee (f := 60) rfl ?_); refine goesL_ (some 12) rfl rfl Try.func60 (by kernel_rfl) rfl #[.slice Ao38 y134.length co38, .int .i64 3] rfl (by (try simp only [List.map_toArray, List.map_cons, List.map_nil]); first | done | rfl | (simp only [List.length_drop, List.length_take]; rfl)) ?_; (with_reducible refine (plexuslaw03_opened.calls k _ _ y134 3 t145 t148 _ ?side1 ?side2 A3.out).mono ?_); (case side1 => repeat (first | exact (Kd.R_reads' HO136.out).2.2 | (with_reducible refine Kd.C_alloc ?_ _) | (with_reducible refine Kd.C_drewN ?_ _) | (with_reducible refine Kd.C_drew ?_))); (case side2 => exact (Kd.R_reads' HO136.out).2.1); rintro e w41 ⟨v146, rfl, ho0, hb⟩; refine ⟨_, rfl, ?_⟩; have n0_ := Aside0.mk (Kd.R_elder' (by (with_reducible repeat (first | apply Kd.R_alloc | apply Kd.R_drewN | apply Kd.R_drew)); exact HO136.out) (Kd.R_base ho0) hb); have n1_ := Aside0.mk (Kd.R_elder' (by (with_reducible repeat (first | apply Kd.R_alloc | apply Kd.R_drewN | apply Kd.R_drew)); exact HO139.out) (Kd.R_base ho0) hb); have n2_ := Aside0.mk (Kd.R_elder' (by (with_reducible repeat (first | apply Kd.R_alloc | apply Kd.R_drewN | apply Kd.R_drew)); exact HO143.out) (Kd.R_base ho0) hb); have n3_ := Aside0.mk (Kd.R_lower (Kd.R_new' (Kd.R_new' (Kd.R_new' ho0 (Kd.R_lt (by (with_reducible repeat (first | apply Kd.R_alloc | apply Kd.R_drewN | apply Kd.R_drew)); exact HO136.out))) (Kd.R_lt (by (with_reducible repeat (first | apply Kd.R_alloc | apply Kd.R_drewN | apply Kd.R_drew)); exact HO139.out))) (Kd.R_lt (by (with_reducible repeat (first | apply Kd.R_alloc | apply Kd.R_drewN | apply Kd.R_drew)); exact HO143.out))) (below_size (by repeat (first | (with_reducible first | exact HB.out | apply below_alloc | apply pw_below_drewN | apply below_drew1) | exact HB.out)))); have n4_ := Aside0.mk (below_step (by repeat (first | (with_reducible first | exact HB.out | apply below_alloc | apply pw_below_drewN | apply below_drew1) | exact HB.out)) hb); clear HO136; clear HO139; clear HO143; clear HB; have HO136 := n0_; have HO139 := n1_; have HO143 := n2_; have HO147 := n3_; have HB := n4_; clear n0_ n1_ n2_ n3_ n4_; (try clear hb); (try clear hb2); (try clear hk); (try clear hi); (try clear ho0)) | ((with_reducible refine gate_dst (N := 2) rfl ?_); (try (refine gate_guard (by rfl) ?_; dsimp only)); refine box_event ?hg (N := 2) ?hd (cs := #[.slice none 0 0, .int .i64 0]) (t := 80) ?hr ?_; (case hd => rfl); (case hg => rfl); (case hr => first | (go_simp; done) | (go_simp; rfl)); intro gb149 hg w42 hbox hb; have n0_ := Aside0.mk (Kd.R_below (by (with_reducible repeat (first | apply Kd.R_alloc | apply Kd.R_drewN | apply Kd.R_drew)); exact HO136.out) hb); have n1_ := Aside0.mk (Kd.R_below (by (with_reducible repeat (first | apply Kd.R_alloc | apply Kd.R_drewN | apply Kd.R_drew)); exact HO139.out) hb); have n2_ := Aside0.mk (Kd.R_below (by (with_reducible repeat (first | apply Kd.R_alloc | apply Kd.R_drewN | apply Kd.R_drew)); exact HO143.out) hb); have n3_ := Aside0.mk (Kd.R_below (by (with_reducible repeat (first | apply Kd.R_alloc | apply Kd.R_drewN | apply Kd.R_drew)); exact HO147.out) hb); have n4_ := Aside0.mk (below_step (by repeat (first | (with_reducible first | exact HB.out | apply below_alloc | apply pw_below_drewN | apply below_drew1) | exact HB.out)) hb); have n5_ := Aside0.mk (hbox); have n6_ := Aside0.mk ((by rw [hg]; exact (below_size (by repeat (first | (with_reducible first | exact HB.out | apply below_alloc | apply pw_below_drewN | apply below_drew1) | exact HB.out))) : w.heap.size ≤ gb149)); have n7_ := Aside0.mk ((by rw [hg]; exact (below_size (by repeat (first | (with_reducible first | exact HB.out | apply below_alloc | apply pw_below_drewN | apply below_drew1) | exact HB.out))) : w.heap.size ≤ gb149)); clear HO136; clear HO139; clear HO143; clear HO147; clear HB; have HO136 := n0_; have HO139 := n1_; have HO143 := n2_; have HO147 := n3_; have HB := n4_; have BK149 := n5_; have GW149 := n6_; have GE149 := n7_; clear n0_ n1_ n2_ n3_ n4_ n5_ n6_ n7_; clear hb hbox hg) | ((with_reducible refine gate_dst (N := 3) rfl ?_); (try (refine gate_guard (by rfl) ?_; dsimp only)); refine box_event ?hg (N := 3) ?hd (cs := #[.slice none 0 0, .int .i64 0]) (t := 80) ?hr ?_; (case hd => rfl); (case hg => rfl); (case hr => first | (go_simp; done) | (go_simp; rfl)); intro gb150 hg w43 hbox hb; have n0_ := Aside0.mk (Kd.R_below (by (with_reducible repeat (first | apply Kd.R_alloc | apply Kd.R_drewN | apply Kd.R_drew)); exact HO136.out) hb); have n1_ := Aside0.mk (Kd.R_below (by (with_reducible repeat (first | apply Kd.R_alloc | apply Kd.R_drewN | apply Kd.R_drew)); exact HO139.out) hb); have n2_ := Aside0.mk (Kd.R_below (by (with_reducible repeat (first | apply Kd.R_alloc | apply Kd.R_drewN | apply Kd.R_drew)); exact HO143.out) hb); have n3_ := Aside0.mk (Kd.R_below (by (with_reducible repeat (first | apply Kd.R_alloc | apply Kd.R_drewN | apply Kd.R_drew)); exact HO147.out) hb); have n4_ := Aside0.mk (blk_below (g := gb149) (o := .cells #[.slice none 0 0, .int .i64 0] 80 (0, 0)) (by (with_reducible repeat (first | refine blk_drewN ?_ _ | refine blk_drew ?_ | refine blk_alloc ?_ _)); exact BK149.out) hb); have n5_ := Aside0.mk (below_step (by repeat (first | (with_reducible first | exact HB.out | apply below_alloc | apply pw_below_drewN | apply below_drew1 | refine below_set ?_ GE149.out) | exact HB.out)) hb); have n6_ := Aside0.mk (hbox); have n7_ := Aside0.mk ((by rw [hg]; exact (below_size (by repeat (first | (with_reducible first | exact HB.out | apply below_alloc | apply pw_below_drewN | apply below_drew1 | refine below_set ?_ GE149.out) | exact HB.out))) : w.heap.size ≤ gb150)); have n8_ := Aside0.mk ((by rw [hg]; exact (below_size (by repeat (first | (with_reducible first | exact HB.out | apply below_alloc | apply pw_below_drewN | apply below_drew1 | refine below_set ?_ GE149.out) | exact HB.out))) : w.heap.size ≤ gb150)); have n9_ := Aside0.mk ((by rw [hg]; exact Nat.ne_of_lt (blk_lt (g := gb149) (o := .cells #[.slice none 0 0, .int .i64 0] 80 (0, 0)) (by (with_reducible repeat (first | refine blk_drewN ?_ _ | refine blk_drew ?_ | refine blk_alloc ?_ _)); exact BK149.out)) : gb149 ≠ gb150)); have n10_ := Aside0.mk ((by rw [hg]; exact Nat.ne_of_gt (blk_lt (g := gb149) (o := .cells #[.slice none 0 0, .int .i64 0] 80 (0, 0)) (by (with_reducible repeat (first | refine blk_drewN ?_ _ | refine blk_drew ?_ | refine blk_alloc ?_ _)); exact BK149.out)) : gb150 ≠ gb149)); clear HO136; clear HO139; clear HO143; clear HO147; clear BK149; clear HB; have HO136 := n0_; have HO139 := n1_; have HO143 := n2_; have HO147 := n3_; have BK149 := n4_; have HB := n5_; have BK150 := n6_; have GW150 := n7_; have GE150 := n8_; have NB149_150 := n9_; have NB150_149 := n10_; clear n0_ n1_ n2_ n3_ n4_ n5_ n6_ n7_ n8_ n9_ n10_; clear hb hbox hg) | ((with_reducible refine gate_dst (N := 4) rfl ?_); (try (refine gate_guard (by rfl) ?_; dsimp only)); refine box_event ?hg (N := 4) ?hd (cs := #[.slice none 0 0, .int .i64 0]) (t := 80) ?hr ?_; (case hd => rfl); (case hg => rfl); (case hr => first | (go_simp; done) | (go_simp; rfl)); intro gb151 hg w44 hbox hb; have n0_ := Aside0.mk (Kd.R_below (by (with_reducible repeat (first | apply Kd.R_alloc | apply Kd.R_drewN | apply Kd.R_drew)); exact HO136.out) hb); have n1_ := Aside0.mk (Kd.R_below (by (with_reducible repeat (first | apply Kd.R_alloc | apply Kd.R_drewN | apply Kd.R_drew)); exact HO139.out) hb); have n2_ := Aside0.mk (Kd.R_below (by (with_reducible repeat (first | apply Kd.R_alloc | apply Kd.R_drewN | apply Kd.R_drew)); exact HO143.out) hb); have n3_ := Aside0.mk (Kd.R_below (by (with_reducible repeat (first | apply Kd.R_alloc | apply Kd.R_drewN | apply Kd.R_drew)); exact HO147.out) hb); have n4_ := Aside0.mk (blk_below (g := gb149) (o := .cells #[.slice none 0 0, .int .i64 0] 80 (0, 0)) (by (with_reducible repeat (first | refine blk_drewN ?_ _ | refine blk_drew ?_ | refine blk_alloc ?_ _)); exact BK149.out) hb); have n5_ := Aside0.mk (blk_below (g := gb150) (o := .cells #[.slice none 0 0, .int .i64 0] 80 (0, 0)) (by (with_reducible repeat (first | refine blk_drewN ?_ _ | refine blk_drew ?_ | refine blk_alloc ?_ _)); exact BK150.out) hb); have n6_ := Aside0.mk (below_step (by repeat (first | (with_reducible first | exact HB.out | apply below_alloc | apply pw_below_drewN | apply below_drew1 | refine below_set ?_ GE149.out | refine below_set ?_ GE150.out) | exact HB.out)) hb); have n7_ := Aside0.mk (hbox); have n8_ := Aside0.mk ((by rw [hg]; exact (below_size (by repeat (first | (with_reducible first | exact HB.out | apply below_alloc | apply pw_below_drewN | apply below_drew1 | refine below_set ?_ GE149.out | refine below_set ?_ GE150.out) | exact HB.out))) : w.heap.size ≤ gb151)); have n9_ := Aside0.mk ((by rw [hg]; exact (below_size (by repeat (first | (with_reducible first | exact HB.out | apply below_alloc | apply pw_below_drewN | apply below_drew1 | refine below_set ?_ GE149.out | refine below_set ?_ GE150.out) | exact HB.out))) : w.heap.size ≤ gb151)); have n10_ := Aside0.mk ((by rw [hg]; exact Nat.ne_of_lt (blk_lt (g := gb149) (o := .cells #[.slice none 0 0, .int .i64 0] 80 (0, 0)) (by (with_reducible repeat (first | refine blk_drewN ?_ _ | refine blk_drew ?_ | refine blk_alloc ?_ _)); exact BK149.out)) : gb149 ≠ gb151)); have n11_ := Aside0.mk ((by rw [hg]; exact Nat.ne_of_gt (blk_lt (g := gb149) (o := .cells #[.slice none 0 0, .int .i64 0] 80 (0, 0)) (by (with_reducible repeat (first | refine blk_drewN ?_ _ | refine blk_drew ?_ | refine blk_alloc ?_ _)); exact BK149.out)) : gb151 ≠ gb149)); have n12_ := Aside0.mk ((by rw [hg]; exact Nat.ne_of_lt (blk_lt (g := gb150) (o := .cells #[.slice none 0 0, .int .i64 0] 80 (0, 0)) (by (with_reducible repeat (first | refine blk_drewN ?_ _ | refine blk_drew ?_ | refine blk_alloc ?_ _)); exact BK150.out)) : gb150 ≠ gb151)); have n13_ := Aside0.mk ((by rw [hg]; exact Nat.ne_of_gt (blk_lt (g := gb150) (o := .cells #[.slice none 0 0, .int .i64 0] 80 (0, 0)) (by (with_reducible repeat (first | refine blk_drewN ?_ _ | refine blk_drew ?_ | refine blk_alloc ?_ _)); exact BK150.out)) : gb151 ≠ gb150)); clear HO136; clear HO139; clear HO143; clear HO147; clear BK149; clear BK150; clear HB; have HO136 := n0_; have HO139 := n1_; have HO143 := n2_; have HO147 := n3_; have BK149 := n4_; have BK150 := n5_; have HB := n6_; have BK151 := n7_; have GW151 := n8_; have GE151 := n9_; have NB149_151 := n10_; have NB151_149 := n11_; have NB150_151 := n12_; have NB151_150 := n13_; clear n0_ n1_ n2_ n3_ n4_ n5_ n6_ n7_ n8_ n9_ n10_ n11_ n12_ n13_; clear hb hbox hg; obtain ⟨Ao45, co45, eo45⟩ := Kd.R_slice HO139.out; subst eo45; have hnb46 := NB149_150.out; have hnc46 := NB150_149.out; have hnb47 := NB149_151.out; have hnc47 := NB151_149.out; have hcz48_0 : w44.cell? ⟨gb149, 0, none⟩ = some (.slice none 0 0) := (blk_cell BK149.out 0).trans rfl; have hcz48_1 : w44.cell? ⟨gb149, 1, none⟩ = some (.int .i64 0) := (blk_cell BK149.out 1).trans rfl; have hfz48_0 := blk_frozen BK149.out 0; have hfz48_1 := blk_frozen BK149.out 1; obtain ⟨Ao49, co49, eo49⟩ := Kd.R_slice HO143.out; subst eo49; have hnb50 := NB150_151.out; have hnc50 := NB151_150.out; have hcz51_0 : w44.cell? ⟨gb150, 0, none⟩ = some (.slice none 0 0) := (blk_cell BK150.out 0).trans rfl; have hcz51_1 : w44.cell? ⟨gb150, 1, none⟩ = some (.int .i64 0) := (blk_cell BK150.out 1).trans rfl; have hfz51_0 := blk_frozen BK150.out 0; have hfz51_1 := blk_frozen BK150.out 1; obtain ⟨Ao52, co52, eo52⟩ := Kd.R_slice HO147.out; subst eo52; have hcz53_0 : w44.cell? ⟨gb151, 0, none⟩ = some (.slice none 0 0) := (blk_cell BK151.out 0).trans rfl; have hcz53_1 : w44.cell? ⟨gb151, 1, none⟩ = some (.int .i64 0) := (blk_cell BK151.out 1).trans rfl; have hfz53_0 := blk_frozen BK151.out 0; have hfz53_1 := blk_frozen BK151.out 1) | ((with_reducible refine gate_callee (f := 71) rfl ?_); refine goesL_ (some 13) rfl rfl Try.func71 (by kernel_rfl) rfl #[.int .u64 5, .int .u64 6] rfl (by (try simp only [List.map_toArray, List.map_cons, List.map_nil]); first | done | rfl | (simp only [List.length_drop, List.length_take]; rfl)) ?_; (with_reducible refine (seal_Join.calls 5 6 t152 _ A4.out).mono ?_); rintro e w' ⟨rfl, ⟨nd, rfl⟩⟩; refine ⟨_, rfl, ?_⟩) | ((with_reducible refine gate_dst (N := 31) rfl ?_); (try (refine gate_guard (by rfl) ?_; dsimp only)); refine Kd.R_lit (Kd.int .u64) _ 72 ?hg (N := 31) ?hd (xs := ([t152] : List Int)) (inner := [.int .u64 t152]) (ok := fun _ => True) (okp := fun _ => True) ?hr ?hp (fun _ hk => hk) trivial (Below.refl _ _) (Nat.le_refl _) (by simp) ?_; (case hd => rfl); (case hg => rfl); (case hr => first | (go_simp; done) | (go_simp; rfl)); (case hp => exact (Reps.one (show Kd.M (Kd.int .u64) _ _ _ t152 [.int .u64 t152] from rfl) (Reps.none _ _))); intro v154 w54 ho55 hb hg_ hnew_; clear hg_ hnew_; (first | rw [← Ny153.out] at ho55 | (simp only [Int.reduceToNat] at ho55; rw [← Ny153.out] at ho55)); have n0_ := Aside0.mk (Kd.R_elder' (by (with_reducible repeat (first | apply Kd.R_alloc | apply Kd.R_drewN | apply Kd.R_drew)); exact (Kd.R_mono (Kd.R_mono (Kd.R_mono (Kd.R_far (p := ⟨gb151, 1, none⟩) (Kd.R_far (p := ⟨gb151, 0, none⟩) (Kd.R_far (p := ⟨gb150, 1, none⟩) (Kd.R_far (p := ⟨gb150, 0, none⟩) (Kd.R_far (p := ⟨gb149, 1, none⟩) (Kd.R_far (p := ⟨gb149, 0, none⟩) (Kd.R_types (Kd.R_types (Kd.R_types HO136.out BK149.out (by decide)) BK150.out (by decide)) BK151.out (by decide)) (fun _ hk => hk.1.1.2) (.slice Ao45 t137.length co45)) (fun _ hk => hk.1.1.2) (.int .i64 t140)) (fun _ hk => hk.1.2) (.slice Ao49 t141.length co49)) (fun _ hk => hk.1.2) (.int .i64 t144)) (fun _ hk => hk.2) (.slice Ao52 t145.length co52)) (fun _ hk => hk.2) (.int .i64 t148)) (fun _ h_ => h_.1)) (fun _ h_ => h_.1)) (fun _ h_ => h_.1))) (Kd.R_base ho55) hb); have n1_ := Aside0.mk (Kd.R_elder' (by (with_reducible repeat (first | apply Kd.R_alloc | apply Kd.R_drewN | apply Kd.R_drew)); exact (Kd.R_mono (Kd.R_mono (Kd.R_mono (Kd.R_far (p := ⟨gb151, 1, none⟩) (Kd.R_far (p := ⟨gb151, 0, none⟩) (Kd.R_far (p := ⟨gb150, 1, none⟩) (Kd.R_far (p := ⟨gb150, 0, none⟩) (Kd.R_far (p := ⟨gb149, 1, none⟩) (Kd.R_far (p := ⟨gb149, 0, none⟩) (Kd.R_types (Kd.R_types (Kd.R_types HO139.out BK149.out (by decide)) BK150.out (by decide)) BK151.out (by decide)) (fun _ hk => hk.1.1.2) (.slice Ao45 t137.length co45)) (fun _ hk => hk.1.1.2) (.int .i64 t140)) (fun _ hk => hk.1.2) (.slice Ao49 t141.length co49)) (fun _ hk => hk.1.2) (.int .i64 t144)) (fun _ hk => hk.2) (.slice Ao52 t145.length co52)) (fun _ hk => hk.2) (.int .i64 t148)) (fun _ h_ => h_.1)) (fun _ h_ => h_.1)) (fun _ h_ => h_.1))) (Kd.R_base ho55) hb); have n2_ := Aside0.mk (Kd.R_elder' (by (with_reducible repeat (first | apply Kd.R_alloc | apply Kd.R_drewN | apply Kd.R_drew)); exact (Kd.R_mono (Kd.R_mono (Kd.R_mono (Kd.R_far (p := ⟨gb151, 1, none⟩) (Kd.R_far (p := ⟨gb151, 0, none⟩) (Kd.R_far (p := ⟨gb150, 1, none⟩) (Kd.R_far (p := ⟨gb150, 0, none⟩) (Kd.R_far (p := ⟨gb149, 1, none⟩) (Kd.R_far (p := ⟨gb149, 0, none⟩) (Kd.R_types (Kd.R_types (Kd.R_types HO143.out BK149.out (by decide)) BK150.out (by decide)) BK151.out (by decide)) (fun _ hk => hk.1.1.2) (.slice Ao45 t137.length co45)) (fun _ hk => hk.1.1.2) (.int .i64 t140)) (fun _ hk => hk.1.2) (.slice Ao49 t141.length co49)) (fun _ hk => hk.1.2) (.int .i64 t144)) (fun _ hk => hk.2) (.slice Ao52 t145.length co52)) (fun _ hk => hk.2) (.int .i64 t148)) (fun _ h_ => h_.1)) (fun _ h_ => h_.1)) (fun _ h_ => h_.1))) (Kd.R_base ho55) hb); have n3_ := Aside0.mk (Kd.R_elder' (by (with_reducible repeat (first | apply Kd.R_alloc | apply Kd.R_drewN | apply Kd.R_drew)); exact (Kd.R_mono (Kd.R_mono (Kd.R_mono (Kd.R_far (p := ⟨gb151, 1, none⟩) (Kd.R_far (p := ⟨gb151, 0, none⟩) (Kd.R_far (p := ⟨gb150, 1, none⟩) (Kd.R_far (p := ⟨gb150, 0, none⟩) (Kd.R_far (p := ⟨gb149, 1, none⟩) (Kd.R_far (p := ⟨gb149, 0, none⟩) (Kd.R_types (Kd.R_types (Kd.R_types HO147.out BK149.out (by decide)) BK150.out (by decide)) BK151.out (by decide)) (fun _ hk => hk.1.1.2) (.slice Ao45 t137.length co45)) (fun _ hk => hk.1.1.2) (.int .i64 t140)) (fun _ hk => hk.1.2) (.slice Ao49 t141.length co49)) (fun _ hk => hk.1.2) (.int .i64 t144)) (fun _ hk => hk.2) (.slice Ao52 t145.length co52)) (fun _ hk => hk.2) (.int .i64 t148)) (fun _ h_ => h_.1)) (fun _ h_ => h_.1)) (fun _ h_ => h_.1))) (Kd.R_base ho55) hb); have n4_ := Aside0.mk (Kd.R_lower (Kd.R_new' (Kd.R_new' (Kd.R_new' (Kd.R_new' ho55 (Kd.R_lt (by (with_reducible repeat (first | apply Kd.R_alloc | apply Kd.R_drewN | apply Kd.R_drew)); exact (Kd.R_mono (Kd.R_mono (Kd.R_mono (Kd.R_far (p := ⟨gb151, 1, none⟩) (Kd.R_far (p := ⟨gb151, 0, none⟩) (Kd.R_far (p := ⟨gb150, 1, none⟩) (Kd.R_far (p := ⟨gb150, 0, none⟩) (Kd.R_far (p := ⟨gb149, 1, none⟩) (Kd.R_far (p := ⟨gb149, 0, none⟩) (Kd.R_types (Kd.R_types (Kd.R_types HO136.out BK149.out (by decide)) BK150.out (by decide)) BK151.out (by decide)) (fun _ hk => hk.1.1.2) (.slice Ao45 t137.length co45)) (fun _ hk => hk.1.1.2) (.int .i64 t140)) (fun _ hk => hk.1.2) (.slice Ao49 t141.length co49)) (fun _ hk => hk.1.2) (.int .i64 t144)) (fun _ hk => hk.2) (.slice Ao52 t145.length co52)) (fun _ hk => hk.2) (.int .i64 t148)) (fun _ h_ => h_.1)) (fun _ h_ => h_.1)) (fun _ h_ => h_.1))))) (Kd.R_lt (by (with_reducible repeat (first | apply Kd.R_alloc | apply Kd.R_drewN | apply Kd.R_drew)); exact (Kd.R_mono (Kd.R_mono (Kd.R_mono (Kd.R_far (p := ⟨gb151, 1, none⟩) (Kd.R_far (p := ⟨gb151, 0, none⟩) (Kd.R_far (p := ⟨gb150, 1, none⟩) (Kd.R_far (p := ⟨gb150, 0, none⟩) (Kd.R_far (p := ⟨gb149, 1, none⟩) (Kd.R_far (p := ⟨gb149, 0, none⟩) (Kd.R_types (Kd.R_types (Kd.R_types HO139.out BK149.out (by decide)) BK150.out (by decide)) BK151.out (by decide)) (fun _ hk => hk.1.1.2) (.slice Ao45 t137.length co45)) (fun _ hk => hk.1.1.2) (.int .i64 t140)) (fun _ hk => hk.1.2) (.slice Ao49 t141.length co49)) (fun _ hk => hk.1.2) (.int .i64 t144)) (fun _ hk => hk.2) (.slice Ao52 t145.length co52)) (fun _ hk => hk.2) (.int .i64 t148)) (fun _ h_ => h_.1)) (fun _ h_ => h_.1)) (fun _ h_ => h_.1))))) (Kd.R_lt (by (with_reducible repeat (first | apply Kd.R_alloc | apply Kd.R_drewN | apply Kd.R_drew)); exact (Kd.R_mono (Kd.R_mono (Kd.R_mono (Kd.R_far (p := ⟨gb151, 1, none⟩) (Kd.R_far (p := ⟨gb151, 0, none⟩) (Kd.R_far (p := ⟨gb150, 1, none⟩) (Kd.R_far (p := ⟨gb150, 0, none⟩) (Kd.R_far (p := ⟨gb149, 1, none⟩) (Kd.R_far (p := ⟨gb149, 0, none⟩) (Kd.R_types (Kd.R_types (Kd.R_types HO143.out BK149.out (by decide)) BK150.out (by decide)) BK151.out (by decide)) (fun _ hk => hk.1.1.2) (.slice Ao45 t137.length co45)) (fun _ hk => hk.1.1.2) (.int .i64 t140)) (fun _ hk => hk.1.2) (.slice Ao49 t141.length co49)) (fun _ hk => hk.1.2) (.int .i64 t144)) (fun _ hk => hk.2) (.slice Ao52 t145.length co52)) (fun _ hk => hk.2) (.int .i64 t148)) (fun _ h_ => h_.1)) (fun _ h_ => h_.1)) (fun _ h_ => h_.1))))) (Kd.R_lt (by (with_reducible repeat (first | apply Kd.R_alloc | apply Kd.R_drewN | apply Kd.R_drew)); exact (Kd.R_mono (Kd.R_mono (Kd.R_mono (Kd.R_far (p := ⟨gb151, 1, none⟩) (Kd.R_far (p := ⟨gb151, 0, none⟩) (Kd.R_far (p := ⟨gb150, 1, none⟩) (Kd.R_far (p := ⟨gb150, 0, none⟩) (Kd.R_far (p := ⟨gb149, 1, none⟩) (Kd.R_far (p := ⟨gb149, 0, none⟩) (Kd.R_types (Kd.R_types (Kd.R_types HO147.out BK149.out (by decide)) BK150.out (by decide)) BK151.out (by decide)) (fun _ hk => hk.1.1.2) (.slice Ao45 t137.length co45)) (fun _ hk => hk.1.1.2) (.int .i64 t140)) (fun _ hk => hk.1.2) (.slice Ao49 t141.length co49)) (fun _ hk => hk.1.2) (.int .i64 t144)) (fun _ hk => hk.2) (.slice Ao52 t145.length co52)) (fun _ hk => hk.2) (.int .i64 t148)) (fun _ h_ => h_.1)) (fun _ h_ => h_.1)) (fun _ h_ => h_.1))))) (below_size (by repeat (first | (with_reducible first | exact HB.out | apply below_alloc | apply pw_below_drewN | apply below_drew1 | refine below_set ?_ GE149.out | refine below_set ?_ GE150.out | refine below_set ?_ GE151.out) | exact HB.out)))); have n5_ := Aside0.mk (blk_below (g := gb149) (o := .cells #[.slice Ao45 t137.length co45, .int .i64 t140] 80 (0, 0)) (by (with_reducible repeat (first | refine blk_drewN ?_ _ | refine blk_drew ?_ | refine blk_alloc ?_ _)); refine blk_far ?_ NB149_151.out _; (with_reducible repeat (first | refine blk_drewN ?_ _ | refine blk_drew ?_ | refine blk_alloc ?_ _)); refine blk_far ?_ NB149_151.out _; (with_reducible repeat (first | refine blk_drewN ?_ _ | refine blk_drew ?_ | refine blk_alloc ?_ _)); refine blk_far ?_ NB149_150.out _; (with_reducible repeat (first | refine blk_drewN ?_ _ | refine blk_drew ?_ | refine blk_alloc ?_ _)); refine blk_far ?_ NB149_150.out _; (with_reducible repeat (first | refine blk_drewN ?_ _ | refine blk_drew ?_ | refine blk_alloc ?_ _)); refine blk_put (cs := #[.slice Ao45 t137.length co45, .int .i64 0]) ?_ 1 _ rfl; (with_reducible repeat (first | refine blk_drewN ?_ _ | refine blk_drew ?_ | refine blk_alloc ?_ _)); refine blk_put (cs := #[.slice none 0 0, .int .i64 0]) ?_ 0 _ rfl; (with_reducible repeat (first | refine blk_drewN ?_ _ | refine blk_drew ?_ | refine blk_alloc ?_ _)); exact BK149.out) hb); have n6_ := Aside0.mk (blk_below (g := gb150) (o := .cells #[.slice Ao49 t141.length co49, .int .i64 t144] 80 (0, 0)) (by (with_reducible repeat (first | refine blk_drewN ?_ _ | refine blk_drew ?_ | refine blk_alloc ?_ _)); refine blk_far ?_ NB150_151.out _; (with_reducible repeat (first | refine blk_drewN ?_ _ | refine blk_drew ?_ | refine blk_alloc ?_ _)); refine blk_far ?_ NB150_151.out _; (with_reducible repeat (first | refine blk_drewN ?_ _ | refine blk_drew ?_ | refine blk_alloc ?_ _)); refine blk_put (cs := #[.slice Ao49 t141.length co49, .int .i64 0]) ?_ 1 _ rfl; (with_reducible repeat (first | refine blk_drewN ?_ _ | refine blk_drew ?_ | refine blk_alloc ?_ _)); refine blk_put (cs := #[.slice none 0 0, .int .i64 0]) ?_ 0 _ rfl; (with_reducible repeat (first | refine blk_drewN ?_ _ | refine blk_drew ?_ | refine blk_alloc ?_ _)); refine blk_far ?_ NB150_149.out _; (with_reducible repeat (first | refine blk_drewN ?_ _ | refine blk_drew ?_ | refine blk_alloc ?_ _)); refine blk_far ?_ NB150_149.out _; (with_reducible repeat (first | refine blk_drewN ?_ _ | refine blk_drew ?_ | refine blk_alloc ?_ _)); exact BK150.out) hb); have n7_ := Aside0.mk (blk_below (g := gb151) (o := .cells #[.slice Ao52 t145.length co52, .int .i64 t148] 80 (0, 0)) (by (with_reducible repeat (first | refine blk_drewN ?_ _ | refine blk_drew ?_ | refine blk_alloc ?_ _)); refine blk_put (cs := #[.slice Ao52 t145.length co52, .int .i64 0]) ?_ 1 _ rfl; (with_reducible repeat (first | refine blk_drewN ?_ _ | refine blk_drew ?_ | refine blk_alloc ?_ _)); refine blk_put (cs := #[.slice none 0 0, .int .i64 0]) ?_ 0 _ rfl; (with_reducible repeat (first | refine blk_drewN ?_ _ | refine blk_drew ?_ | refine blk_alloc ?_ _)); refine blk_far ?_ NB151_150.out _; (with_reducible repeat (first | refine blk_drewN ?_ _ | refine blk_drew ?_ | refine blk_alloc ?_ _)); refine blk_far ?_ NB151_150.out _; (with_reducible repeat (first | refine blk_drewN ?_ _ | refine blk_drew ?_ | refine blk_alloc ?_ _)); refine blk_far ?_ NB151_149.out _; (with_reducible repeat (first | refine blk_drewN ?_ _ | refine blk_drew ?_ | refine blk_alloc ?_ _)); refine blk_far ?_ NB151_149.out _; (with_reducible repeat (first | refine blk_drewN ?_ _ | refine blk_drew ?_ | refine blk_alloc ?_ _)); exact BK151.out) hb); have n8_ := Aside0.mk (below_step (by repeat (first | (with_reducible first | exact HB.out | apply below_alloc | apply pw_below_drewN | apply below_drew1 | refine below_set ?_ GE149.out | refine below_set ?_ GE150.out | refine below_set ?_ GE151.out) | exact HB.out)) hb); clear HO136; clear HO139; clear HO143; clear HO147; clear BK149; clear BK150; clear BK151; clear HB; have HO136 := n0_; have HO139 := n1_; have HO143 := n2_; have HO147 := n3_; have HO155 := n4_; have BK149 := n5_; have BK150 := n6_; have BK151 := n7_; have HB := n8_; clear n0_ n1_ n2_ n3_ n4_ n5_ n6_ n7_ n8_; clear hb ho55; obtain ⟨Ao56, co56, eo56⟩ := Kd.R_slice HO155.out; subst eo56) | (go_at_call 62; (with_reducible refine (plexusref03_Same.calls k _ _ t137 _ _ y153 true _ ?side1 ?side2 ?side3 ?side4 A8.out).mono ?_); (case side1 => repeat (first | exact (Kd.R_reads' HO139.out).2.2 | (with_reducible refine Kd.C_alloc ?_ _) | (with_reducible refine Kd.C_drewN ?_ _) | (with_reducible refine Kd.C_drew ?_))); (case side2 => exact (Kd.R_reads' HO139.out).2.1); (case side3 => repeat (first | exact (Kd.R_reads' HO155.out).2.2 | (with_reducible refine Kd.C_alloc ?_ _) | (with_reducible refine Kd.C_drewN ?_ _) | (with_reducible refine Kd.C_drew ?_))); (case side4 => exact (Kd.R_reads' HO155.out).2.1); rintro e w' ⟨rfl, ⟨nd, rfl⟩⟩; have hcz57_0 : w54.cell? ⟨gb150, 0, none⟩ = some (.slice Ao49 t141.length co49) := (blk_cell BK150.out 0).trans rfl; have hcz57_1 : w54.cell? ⟨gb150, 1, none⟩ = some (.int .i64 t144) := (blk_cell BK150.out 1).trans rfl; have hfz57_0 := blk_frozen BK150.out 0; have hfz57_1 := blk_frozen BK150.out 1) | ((with_reducible refine gate_dst (N := 38) rfl ?_); (try (refine gate_guard (by rfl) ?_; dsimp only)); refine Kd.R_lit (Kd.int .u64) _ 72 ?hg (N := 38) ?hd (xs := ([6, 7] : List Int)) (inner := [.int .u64 6, .int .u64 7]) (ok := fun _ => True) (okp := fun _ => True) ?hr ?hp (fun _ hk => hk) trivial (Below.refl _ _) (Nat.le_refl _) (by simp) ?_; (case hd => rfl); (case hg => rfl); (case hr => first | (go_simp; done) | (go_simp; rfl)); (case hp => exact (Reps.one (show Kd.M (Kd.int .u64) _ _ _ 6 [.int .u64 6] from rfl) (Reps.one (show Kd.M (Kd.int .u64) _ _ _ 7 [.int .u64 7] from rfl) (Reps.none _ _)))); intro v158 w58 ho59 hb hg_ hnew_; clear hg_ hnew_; (first | rw [← Ny157.out] at ho59 | (simp only [Int.reduceToNat] at ho59; rw [← Ny157.out] at ho59)); have n0_ := Aside0.mk (Kd.R_elder' (by (with_reducible repeat (first | apply Kd.R_alloc | apply Kd.R_drewN | apply Kd.R_drew)); exact HO136.out) (Kd.R_base ho59) hb); have n1_ := Aside0.mk (Kd.R_elder' (by (with_reducible repeat (first | apply Kd.R_alloc | apply Kd.R_drewN | apply Kd.R_drew)); exact HO139.out) (Kd.R_base ho59) hb); have n2_ := Aside0.mk (Kd.R_elder' (by (with_reducible repeat (first | apply Kd.R_alloc | apply Kd.R_drewN | apply Kd.R_drew)); exact HO143.out) (Kd.R_base ho59) hb); have n3_ := Aside0.mk (Kd.R_elder' (by (with_reducible repeat (first | apply Kd.R_alloc | apply Kd.R_drewN | apply Kd.R_drew)); exact HO147.out) (Kd.R_base ho59) hb); have n4_ := Aside0.mk (Kd.R_elder' (by (with_reducible repeat (first | apply Kd.R_alloc | apply Kd.R_drewN | apply Kd.R_drew)); exact HO155.out) (Kd.R_base ho59) hb); have n5_ := Aside0.mk (Kd.R_lower (Kd.R_new' (Kd.R_new' (Kd.R_new' (Kd.R_new' (Kd.R_new' ho59 (Kd.R_lt (by (with_reducible repeat (first | apply Kd.R_alloc | apply Kd.R_drewN | apply Kd.R_drew)); exact HO136.out))) (Kd.R_lt (by (with_reducible repeat (first | apply Kd.R_alloc | apply Kd.R_drewN | apply Kd.R_drew)); exact HO139.out))) (Kd.R_lt (by (with_reducible repeat (first | apply Kd.R_alloc | apply Kd.R_drewN | apply Kd.R_drew)); exact HO143.out))) (Kd.R_lt (by (with_reducible repeat (first | apply Kd.R_alloc | apply Kd.R_drewN | apply Kd.R_drew)); exact HO147.out))) (Kd.R_lt (by (with_reducible repeat (first | apply Kd.R_alloc | apply Kd.R_drewN | apply Kd.R_drew)); exact HO155.out))) (below_size (by repeat (first | (with_reducible first | exact HB.out | apply below_alloc | apply pw_below_drewN | apply below_drew1 | refine below_set ?_ GE149.out | refine below_set ?_ GE150.out | refine below_set ?_ GE151.out) | exact HB.out)))); have n6_ := Aside0.mk (blk_below (g := gb149) (o := .cells #[.slice Ao45 t137.length co45, .int .i64 t140] 80 (0, 0)) (by (with_reducible repeat (first | refine blk_drewN ?_ _ | refine blk_drew ?_ | refine blk_alloc ?_ _)); exact BK149.out) hb); have n7_ := Aside0.mk (blk_below (g := gb150) (o := .cells #[.slice Ao49 t141.length co49, .int .i64 t144] 80 (0, 0)) (by (with_reducible repeat (first | refine blk_drewN ?_ _ | refine blk_drew ?_ | refine blk_alloc ?_ _)); exact BK150.out) hb); have n8_ := Aside0.mk (blk_below (g := gb151) (o := .cells #[.slice Ao52 t145.length co52, .int .i64 t148] 80 (0, 0)) (by (with_reducible repeat (first | refine blk_drewN ?_ _ | refine blk_drew ?_ | refine blk_alloc ?_ _)); exact BK151.out) hb); have n9_ := Aside0.mk (below_step (by repeat (first | (with_reducible first | exact HB.out | apply below_alloc | apply pw_below_drewN | apply below_drew1 | refine below_set ?_ GE149.out | refine below_set ?_ GE150.out | refine below_set ?_ GE151.out) | exact HB.out)) hb); clear HO136; clear HO139; clear HO143; clear HO147; clear HO155; clear BK149; clear BK150; clear BK151; clear HB; have HO136 := n0_; have HO139 := n1_; have HO143 := n2_; have HO147 := n3_; have HO155 := n4_; have HO159 := n5_; have BK149 := n6_; have BK150 := n7_; have BK151 := n8_; have HB := n9_; clear n0_ n1_ n2_ n3_ n4_ n5_ n6_ n7_ n8_ n9_; clear hb ho59; obtain ⟨Ao60, co60, eo60⟩ := Kd.R_slice HO159.out; subst eo60) | (go_at_call 62; (with_reducible refine (plexusref03_Same.calls k _ _ t141 _ _ y157 true _ ?side1 ?side2 ?side3 ?side4 A10.out).mono ?_); (case side1 => repeat (first | exact (Kd.R_reads' HO143.out).2.2 | (with_reducible refine Kd.C_alloc ?_ _) | (with_reducible refine Kd.C_drewN ?_ _) | (with_reducible refine Kd.C_drew ?_))); (case side2 => exact (Kd.R_reads' HO143.out).2.1); (case side3 => repeat (first | exact (Kd.R_reads' HO159.out).2.2 | (with_reducible refine Kd.C_alloc ?_ _) | (with_reducible refine Kd.C_drewN ?_ _) | (with_reducible refine Kd.C_drew ?_))); (case side4 => exact (Kd.R_reads' HO159.out).2.1); rintro e w' ⟨rfl, ⟨nd, rfl⟩⟩; have q61 : (1 : Int) ≤ ((y134.length : Int) : Int) := of_decide_eq_true (by first | (with_reducible assumption) | assumption); obtain ⟨i061, hi061, _, hsz61, _⟩ := info_parts info72; have hroom61 : y134.length ≤ co38 := (Kd.R_reads' HO136.out).2.1; have hC61 : Kd.C (Kd.int .u64) _ Ao38 y134.length y134 := (Kd.R_reads' HO136.out).2.2; have hcut61 := cut_to (P := Try.prog) 75 72 .i64 Try.underlying75 hi061 Ao38 y134.length co38 1 (by omega) q61 hroom61; have hr61 := Kd.C_take (m := 1) hC61 (by omega); have hy61 : y161.length = (1 : Int).toNat := (by rw [Ny161.out, List.length_take]; omega); rw [← Ny161.out] at hr61; rw [← hy61] at hcut61; have HR164 := Aside0.mk hr61; have HC164 := Aside0.mk (show y161.length ≤ co38 from by omega); clear hr61 hC61 hroom61 hi061 hsz61; have KY61 := Aside0.mk hy61; clear hy61; have KL61 := Aside0.mk (show 1 ≤ y134.length from by omega); replace q61 := eq_true q61) | (go_at_call 59; (with_reducible refine (seal_Root.calls k _ _ y161 t165 _ ?side1 ?side2 A13.out).mono ?_); (case side1 => repeat (first | exact (by repeat (first | (with_reducible exact HR164.out) | (with_reducible refine Kd.C_alloc ?_ _) | (with_reducible refine Kd.C_drewN ?_ _) | (with_reducible refine Kd.C_drew ?_) | exact HR164.out)) | (with_reducible refine Kd.C_alloc ?_ _) | (with_reducible refine Kd.C_drewN ?_ _) | (with_reducible refine Kd.C_drew ?_))); (case side2 => exact HC164.out); rintro e w62 ⟨rfl, hb⟩; have n0_ := Aside0.mk (Kd.R_below (by (with_reducible repeat (first | apply Kd.R_alloc | apply Kd.R_drewN | apply Kd.R_drew)); exact HO136.out) hb); have n1_ := Aside0.mk (Kd.R_below (by (with_reducible repeat (first | apply Kd.R_alloc | apply Kd.R_drewN | apply Kd.R_drew)); exact HO139.out) hb); have n2_ := Aside0.mk (Kd.R_below (by (with_reducible repeat (first | apply Kd.R_alloc | apply Kd.R_drewN | apply Kd.R_drew)); exact HO143.out) hb); have n3_ := Aside0.mk (Kd.R_below (by (with_reducible repeat (first | apply Kd.R_alloc | apply Kd.R_drewN | apply Kd.R_drew)); exact HO147.out) hb); have n4_ := Aside0.mk (Kd.R_below (by (with_reducible repeat (first | apply Kd.R_alloc | apply Kd.R_drewN | apply Kd.R_drew)); exact HO155.out) hb); have n5_ := Aside0.mk (Kd.R_below (by (with_reducible repeat (first | apply Kd.R_alloc | apply Kd.R_drewN | apply Kd.R_drew)); exact HO159.out) hb); have n6_ := Aside0.mk (blk_below (g := gb149) (o := .cells #[.slice Ao45 t137.length co45, .int .i64 t140] 80 (0, 0)) (by (with_reducible repeat (first | refine blk_drewN ?_ _ | refine blk_drew ?_ | refine blk_alloc ?_ _)); exact BK149.out) hb); have n7_ := Aside0.mk (blk_below (g := gb150) (o := .cells #[.slice Ao49 t141.length co49, .int .i64 t144] 80 (0, 0)) (by (with_reducible repeat (first | refine blk_drewN ?_ _ | refine blk_drew ?_ | refine blk_alloc ?_ _)); exact BK150.out) hb); have n8_ := Aside0.mk (blk_below (g := gb151) (o := .cells #[.slice Ao52 t145.length co52, .int .i64 t148] 80 (0, 0)) (by (with_reducible repeat (first | refine blk_drewN ?_ _ | refine blk_drew ?_ | refine blk_alloc ?_ _)); exact BK151.out) hb); have n9_ := Aside0.mk (Kd.C_below (by repeat (first | (with_reducible exact HR164.out) | (with_reducible refine Kd.C_alloc ?_ _) | (with_reducible refine Kd.C_drewN ?_ _) | (with_reducible refine Kd.C_drew ?_) | exact HR164.out)) hb); have n10_ := Aside0.mk (below_step (by repeat (first | (with_reducible first | exact HB.out | apply below_alloc | apply pw_below_drewN | apply below_drew1 | refine below_set ?_ GE149.out | refine below_set ?_ GE150.out | refine below_set ?_ GE151.out) | exact HB.out)) hb); clear HO136; clear HO139; clear HO143; clear HO147; clear HO155; clear HO159; clear BK149; clear BK150; clear BK151; clear HR164; clear HB; have HO136 := n0_; have HO139 := n1_; have HO143 := n2_; have HO147 := n3_; have HO155 := n4_; have HO159 := n5_; have BK149 := n6_; have BK150 := n7_; have BK151 := n8_; have HR164 := n9_; have HB := n10_; clear n0_ n1_ n2_ n3_ n4_ n5_ n6_ n7_ n8_ n9_ n10_; (try clear hb); (try clear hb2); (try clear hk); (try clear hi); have q63 : (2 : Int) ≤ ((y134.length : Int) : Int) := of_decide_eq_true (by first | (with_reducible assumption) | assumption); obtain ⟨i063, hi063, _, hsz63, _⟩ := info_parts info72; have hroom63 : y134.length ≤ co38 := (Kd.R_reads' HO136.out).2.1; have hC63 : Kd.C (Kd.int .u64) _ Ao38 y134.length y134 := (Kd.R_reads' HO136.out).2.2; have hcut63 := cut_to (P := Try.prog) 75 72 .i64 Try.underlying75 hi063 Ao38 y134.length co38 2 (by omega) q63 hroom63; have hr63 := Kd.C_take (m := 2) hC63 (by omega); have hy63 : y166.length = (2 : Int).toNat := (by rw [Ny166.out, List.length_take]; omega); rw [← Ny166.out] at hr63; rw [← hy63] at hcut63; have HR169 := Aside0.mk hr63; have HC169 := Aside0.mk (show y166.length ≤ co38 from by omega); clear hr63 hC63 hroom63 hi063 hsz63; have KY63 := Aside0.mk hy63; clear hy63; have KL63 := Aside0.mk (show 2 ≤ y134.length from by omega); replace q63 := eq_true q63) | (go_at_call 59; (with_reducible refine (seal_Root.calls k _ _ y166 t170 _ ?side1 ?side2 A16.out).mono ?_); (case side1 => repeat (first | exact (by repeat (first | (with_reducible exact HR169.out) | (with_reducible refine Kd.C_alloc ?_ _) | (with_reducible refine Kd.C_drewN ?_ _) | (with_reducible refine Kd.C_drew ?_) | exact HR169.out)) | (with_reducible refine Kd.C_alloc ?_ _) | (with_reducible refine Kd.C_drewN ?_ _) | (with_reducible refine Kd.C_drew ?_))); (case side2 => exact HC169.out); rintro e w64 ⟨rfl, hb⟩; have n0_ := Aside0.mk (Kd.R_below (by (with_reducible repeat (first | apply Kd.R_alloc | apply Kd.R_drewN | apply Kd.R_drew)); exact HO136.out) hb); have n1_ := Aside0.mk (Kd.R_below (by (with_reducible repeat (first | apply Kd.R_alloc | apply Kd.R_drewN | apply Kd.R_drew)); exact HO139.out) hb); have n2_ := Aside0.mk (Kd.R_below (by (with_reducible repeat (first | apply Kd.R_alloc | apply Kd.R_drewN | apply Kd.R_drew)); exact HO143.out) hb); have n3_ := Aside0.mk (Kd.R_below (by (with_reducible repeat (first | apply Kd.R_alloc | apply Kd.R_drewN | apply Kd.R_drew)); exact HO147.out) hb); have n4_ := Aside0.mk (Kd.R_below (by (with_reducible repeat (first | apply Kd.R_alloc | apply Kd.R_drewN | apply Kd.R_drew)); exact HO155.out) hb); have n5_ := Aside0.mk (Kd.R_below (by (with_reducible repeat (first | apply Kd.R_alloc | apply Kd.R_drewN | apply Kd.R_drew)); exact HO159.out) hb); have n6_ := Aside0.mk (blk_below (g := gb149) (o := .cells #[.slice Ao45 t137.length co45, .int .i64 t140] 80 (0, 0)) (by (with_reducible repeat (first | refine blk_drewN ?_ _ | refine blk_drew ?_ | refine blk_alloc ?_ _)); exact BK149.out) hb); have n7_ := Aside0.mk (blk_below (g := gb150) (o := .cells #[.slice Ao49 t141.length co49, .int .i64 t144] 80 (0, 0)) (by (with_reducible repeat (first | refine blk_drewN ?_ _ | refine blk_drew ?_ | refine blk_alloc ?_ _)); exact BK150.out) hb); have n8_ := Aside0.mk (blk_below (g := gb151) (o := .cells #[.slice Ao52 t145.length co52, .int .i64 t148] 80 (0, 0)) (by (with_reducible repeat (first | refine blk_drewN ?_ _ | refine blk_drew ?_ | refine blk_alloc ?_ _)); exact BK151.out) hb); have n9_ := Aside0.mk (Kd.C_below (by repeat (first | (with_reducible exact HR164.out) | (with_reducible refine Kd.C_alloc ?_ _) | (with_reducible refine Kd.C_drewN ?_ _) | (with_reducible refine Kd.C_drew ?_) | exact HR164.out)) hb); have n10_ := Aside0.mk (Kd.C_below (by repeat (first | (with_reducible exact HR169.out) | (with_reducible refine Kd.C_alloc ?_ _) | (with_reducible refine Kd.C_drewN ?_ _) | (with_reducible refine Kd.C_drew ?_) | exact HR169.out)) hb); have n11_ := Aside0.mk (below_step (by repeat (first | (with_reducible first | exact HB.out | apply below_alloc | apply pw_below_drewN | apply below_drew1 | refine below_set ?_ GE149.out | refine below_set ?_ GE150.out | refine below_set ?_ GE151.out) | exact HB.out)) hb); clear HO136; clear HO139; clear HO143; clear HO147; clear HO155; clear HO159; clear BK149; clear BK150; clear BK151; clear HR164; clear HR169; clear HB; have HO136 := n0_; have HO139 := n1_; have HO143 := n2_; have HO147 := n3_; have HO155 := n4_; have HO159 := n5_; have BK149 := n6_; have BK150 := n7_; have BK151 := n8_; have HR164 := n9_; have HR169 := n10_; have HB := n11_; clear n0_ n1_ n2_ n3_ n4_ n5_ n6_ n7_ n8_ n9_ n10_ n11_; (try clear hb); (try clear hb2); (try clear hk); (try clear hi)) | (go_at_call 59; (with_reducible refine (seal_Root.calls k _ _ y134 t171 _ ?side1 ?side2 A18.out).mono ?_); (case side1 => repeat (first | exact (Kd.R_reads' HO136.out).2.2 | (with_reducible refine Kd.C_alloc ?_ _) | (with_reducible refine Kd.C_drewN ?_ _) | (with_reducible refine Kd.C_drew ?_))); (case side2 => exact (Kd.R_reads' HO136.out).2.1); rintro e w65 ⟨rfl, hb⟩; have n0_ := Aside0.mk (Kd.R_below (by (with_reducible repeat (first | apply Kd.R_alloc | apply Kd.R_drewN | apply Kd.R_drew)); exact HO136.out) hb); have n1_ := Aside0.mk (Kd.R_below (by (with_reducible repeat (first | apply Kd.R_alloc | apply Kd.R_drewN | apply Kd.R_drew)); exact HO139.out) hb); have n2_ := Aside0.mk (Kd.R_below (by (with_reducible repeat (first | apply Kd.R_alloc | apply Kd.R_drewN | apply Kd.R_drew)); exact HO143.out) hb); have n3_ := Aside0.mk (Kd.R_below (by (with_reducible repeat (first | apply Kd.R_alloc | apply Kd.R_drewN | apply Kd.R_drew)); exact HO147.out) hb); have n4_ := Aside0.mk (Kd.R_below (by (with_reducible repeat (first | apply Kd.R_alloc | apply Kd.R_drewN | apply Kd.R_drew)); exact HO155.out) hb); have n5_ := Aside0.mk (Kd.R_below (by (with_reducible repeat (first | apply Kd.R_alloc | apply Kd.R_drewN | apply Kd.R_drew)); exact HO159.out) hb); have n6_ := Aside0.mk (blk_below (g := gb149) (o := .cells #[.slice Ao45 t137.length co45, .int .i64 t140] 80 (0, 0)) (by (with_reducible repeat (first | refine blk_drewN ?_ _ | refine blk_drew ?_ | refine blk_alloc ?_ _)); exact BK149.out) hb); have n7_ := Aside0.mk (blk_below (g := gb150) (o := .cells #[.slice Ao49 t141.length co49, .int .i64 t144] 80 (0, 0)) (by (with_reducible repeat (first | refine blk_drewN ?_ _ | refine blk_drew ?_ | refine blk_alloc ?_ _)); exact BK150.out) hb); have n8_ := Aside0.mk (blk_below (g := gb151) (o := .cells #[.slice Ao52 t145.length co52, .int .i64 t148] 80 (0, 0)) (by (with_reducible repeat (first | refine blk_drewN ?_ _ | refine blk_drew ?_ | refine blk_alloc ?_ _)); exact BK151.out) hb); have n9_ := Aside0.mk (Kd.C_below (by repeat (first | (with_reducible exact HR164.out) | (with_reducible refine Kd.C_alloc ?_ _) | (with_reducible refine Kd.C_drewN ?_ _) | (with_reducible refine Kd.C_drew ?_) | exact HR164.out)) hb); have n10_ := Aside0.mk (Kd.C_below (by repeat (first | (with_reducible exact HR169.out) | (with_reducible refine Kd.C_alloc ?_ _) | (with_reducible refine Kd.C_drewN ?_ _) | (with_reducible refine Kd.C_drew ?_) | exact HR169.out)) hb); have n11_ := Aside0.mk (below_step (by repeat (first | (with_reducible first | exact HB.out | apply below_alloc | apply pw_below_drewN | apply below_drew1 | refine below_set ?_ GE149.out | refine below_set ?_ GE150.out | refine below_set ?_ GE151.out) | exact HB.out)) hb); clear HO136; clear HO139; clear HO143; clear HO147; clear HO155; clear HO159; clear BK149; clear BK150; clear BK151; clear HR164; clear HR169; clear HB; have HO136 := n0_; have HO139 := n1_; have HO143 := n2_; have HO147 := n3_; have HO155 := n4_; have HO159 := n5_; have BK149 := n6_; have BK150 := n7_; have BK151 := n8_; have HR164 := n9_; have HR169 := n10_; have HB := n11_; clear n0_ n1_ n2_ n3_ n4_ n5_ n6_ n7_ n8_ n9_ n10_ n11_; (try clear hb); (try clear hb2); (try clear hk); (try clear hi); clear A18) | (go_at_call 71; (with_reducible refine (seal_Join.calls t152 7 t172 _ A19.out).mono ?_); rintro e w' ⟨rfl, ⟨nd, rfl⟩⟩))
                                (try (rw [drewN_self w65]; generalize hq_ : World.drewN w65 _ = w65; have n0_ : Aside0 (Kd.R (Kd.int .u64) 72 w65 w.heap.size (fun k_ => some k_ ≠ (.slice Ao45 t137.length co45 : Value).ownBlock ∧ some k_ ≠ (.slice Ao49 t141.length co49 : Value).ownBlock ∧ some k_ ≠ (.slice Ao52 t145.length co52 : Value).ownBlock ∧ some k_ ≠ (.slice Ao56 y153.length co56 : Value).ownBlock ∧ some k_ ≠ (.slice Ao60 y157.length co60 : Value).ownBlock) (.slice Ao38 y134.length co38) y134) := ⟨by rw [← hq_]; exact (by (with_reducible repeat (first | apply Kd.R_alloc | apply Kd.R_drewN | apply Kd.R_drew)); exact Kd.R_mono HO136.out (fun _ hk => ⟨hk.1.1.1.1.2, ⟨hk.1.1.1.2, ⟨hk.1.1.2, ⟨hk.1.2, hk.2⟩⟩⟩⟩))⟩; have n1_ : Aside0 (Kd.R (Kd.int .u64) 72 w65 w.heap.size (fun k_ => some k_ ≠ (.slice Ao38 y134.length co38 : Value).ownBlock ∧ some k_ ≠ (.slice Ao49 t141.length co49 : Value).ownBlock ∧ some k_ ≠ (.slice Ao52 t145.length co52 : Value).ownBlock ∧ some k_ ≠ (.slice Ao56 y153.length co56 : Value).ownBlock ∧ some k_ ≠ (.slice Ao60 y157.length co60 : Value).ownBlock) (.slice Ao45 t137.length co45) t137) := ⟨by rw [← hq_]; exact (by (with_reducible repeat (first | apply Kd.R_alloc | apply Kd.R_drewN | apply Kd.R_drew)); exact Kd.R_mono HO139.out (fun _ hk => ⟨hk.1.1.1.1.2, ⟨hk.1.1.1.2, ⟨hk.1.1.2, ⟨hk.1.2, hk.2⟩⟩⟩⟩))⟩; have n2_ : Aside0 (Kd.R (Kd.int .u64) 72 w65 w.heap.size (fun k_ => some k_ ≠ (.slice Ao38 y134.length co38 : Value).ownBlock ∧ some k_ ≠ (.slice Ao45 t137.length co45 : Value).ownBlock ∧ some k_ ≠ (.slice Ao52 t145.length co52 : Value).ownBlock ∧ some k_ ≠ (.slice Ao56 y153.length co56 : Value).ownBlock ∧ some k_ ≠ (.slice Ao60 y157.length co60 : Value).ownBlock) (.slice Ao49 t141.length co49) t141) := ⟨by rw [← hq_]; exact (by (with_reducible repeat (first | apply Kd.R_alloc | apply Kd.R_drewN | apply Kd.R_drew)); exact Kd.R_mono HO143.out (fun _ hk => ⟨hk.1.1.1.1.2, ⟨hk.1.1.1.2, ⟨hk.1.1.2, ⟨hk.1.2, hk.2⟩⟩⟩⟩))⟩; have n3_ : Aside0 (Kd.R (Kd.int .u64) 72 w65 w.heap.size (fun k_ => some k_ ≠ (.slice Ao38 y134.length co38 : Value).ownBlock ∧ some k_ ≠ (.slice Ao45 t137.length co45 : Value).ownBlock ∧ some k_ ≠ (.slice Ao49 t141.length co49 : Value).ownBlock ∧ some k_ ≠ (.slice Ao56 y153.length co56 : Value).ownBlock ∧ some k_ ≠ (.slice Ao60 y157.length co60 : Value).ownBlock) (.slice Ao52 t145.length co52) t145) := ⟨by rw [← hq_]; exact (by (with_reducible repeat (first | apply Kd.R_alloc | apply Kd.R_drewN | apply Kd.R_drew)); exact Kd.R_mono HO147.out (fun _ hk => ⟨hk.1.1.1.1.2, ⟨hk.1.1.1.2, ⟨hk.1.1.2, ⟨hk.1.2, hk.2⟩⟩⟩⟩))⟩; have n4_ : Aside0 (Kd.R (Kd.int .u64) 72 w65 w.heap.size (fun k_ => some k_ ≠ (.slice Ao38 y134.length co38 : Value).ownBlock ∧ some k_ ≠ (.slice Ao45 t137.length co45 : Value).ownBlock ∧ some k_ ≠ (.slice Ao49 t141.length co49 : Value).ownBlock ∧ some k_ ≠ (.slice Ao52 t145.length co52 : Value).ownBlock ∧ some k_ ≠ (.slice Ao60 y157.length co60 : Value).ownBlock) (.slice Ao56 y153.length co56) y153) := ⟨by rw [← hq_]; exact (by (with_reducible repeat (first | apply Kd.R_alloc | apply Kd.R_drewN | apply Kd.R_drew)); exact Kd.R_mono HO155.out (fun _ hk => ⟨hk.1.1.1.1.2, ⟨hk.1.1.1.2, ⟨hk.1.1.2, ⟨hk.1.2, hk.2⟩⟩⟩⟩))⟩; have n5_ : Aside0 (Kd.R (Kd.int .u64) 72 w65 w.heap.size (fun k_ => some k_ ≠ (.slice Ao38 y134.length co38 : Value).ownBlock ∧ some k_ ≠ (.slice Ao45 t137.length co45 : Value).ownBlock ∧ some k_ ≠ (.slice Ao49 t141.length co49 : Value).ownBlock ∧ some k_ ≠ (.slice Ao52 t145.length co52 : Value).ownBlock ∧ some k_ ≠ (.slice Ao56 y153.length co56 : Value).ownBlock) (.slice Ao60 y157.length co60) y157) := ⟨by rw [← hq_]; exact (by (with_reducible repeat (first | apply Kd.R_alloc | apply Kd.R_drewN | apply Kd.R_drew)); exact Kd.R_mono HO159.out (fun _ hk => ⟨hk.1.1.1.1.2, ⟨hk.1.1.1.2, ⟨hk.1.1.2, ⟨hk.1.2, hk.2⟩⟩⟩⟩))⟩; have n6_ : Aside0 (w65.heap[gb149]? = some (.cells #[.slice Ao45 t137.length co45, .int .i64 t140] 80 (0, 0))) := ⟨by rw [← hq_]; exact (by (with_reducible repeat (first | refine blk_drewN ?_ _ | refine blk_drew ?_ | refine blk_alloc ?_ _)); exact BK149.out)⟩; have n7_ : Aside0 (w65.heap[gb150]? = some (.cells #[.slice Ao49 t141.length co49, .int .i64 t144] 80 (0, 0))) := ⟨by rw [← hq_]; exact (by (with_reducible repeat (first | refine blk_drewN ?_ _ | refine blk_drew ?_ | refine blk_alloc ?_ _)); exact BK150.out)⟩; have n8_ : Aside0 (w65.heap[gb151]? = some (.cells #[.slice Ao52 t145.length co52, .int .i64 t148] 80 (0, 0))) := ⟨by rw [← hq_]; exact (by (with_reducible repeat (first | refine blk_drewN ?_ _ | refine blk_drew ?_ | refine blk_alloc ?_ _)); exact BK151.out)⟩; have n9_ : Aside0 (Below w.heap.size w w65) := ⟨by rw [← hq_]; exact (by repeat (first | (with_reducible first | exact HB.out | apply below_alloc | apply pw_below_drewN | apply below_drew1 | refine below_set ?_ GE149.out | refine below_set ?_ GE150.out | refine below_set ?_ GE151.out) | exact HB.out))⟩; have n10_ : Aside0 (Kd.C (Kd.int .u64) w65 Ao38 y161.length y161) := ⟨by rw [← hq_]; exact (by repeat (first | (with_reducible exact HR164.out) | (with_reducible refine Kd.C_alloc ?_ _) | (with_reducible refine Kd.C_drewN ?_ _) | (with_reducible refine Kd.C_drew ?_) | exact HR164.out))⟩; have n11_ : Aside0 (Kd.C (Kd.int .u64) w65 Ao38 y166.length y166) := ⟨by rw [← hq_]; exact (by repeat (first | (with_reducible exact HR169.out) | (with_reducible refine Kd.C_alloc ?_ _) | (with_reducible refine Kd.C_drewN ?_ _) | (with_reducible refine Kd.C_drew ?_) | exact HR169.out))⟩; clear HO136 HO139 HO143 HO147 HO155 HO159 BK149 BK150 BK151 HB HR164 HR169 hq_; have HO136 := n0_; have HO139 := n1_; have HO143 := n2_; have HO147 := n3_; have HO155 := n4_; have HO159 := n5_; have BK149 := n6_; have BK150 := n7_; have BK151 := n8_; have HB := n9_; have HR164 := n10_; have HR169 := n11_; clear n0_ n1_ n2_ n3_ n4_ n5_ n6_ n7_ n8_ n9_ n10_ n11_))
                                have n0_ := Aside0.mk (Kd.R_drew HO136.out)
                                have n1_ := Aside0.mk (Kd.R_drew HO139.out)
                                have n2_ := Aside0.mk (Kd.R_drew HO143.out)
                                have n3_ := Aside0.mk (Kd.R_drew HO147.out)
                                have n4_ := Aside0.mk (Kd.R_drew HO155.out)
                                have n5_ := Aside0.mk (Kd.R_drew HO159.out)
                                have n6_ := Aside0.mk (blk_drew BK149.out)
                                have n7_ := Aside0.mk (blk_drew BK150.out)
                                have n8_ := Aside0.mk (blk_drew BK151.out)
                                have n9_ := Aside0.mk (Kd.C_drew HR164.out)
                                have n10_ := Aside0.mk (Kd.C_drew HR169.out)
                                have n11_ := Aside0.mk (below_drew1 HB.out)
                                clear HO136
                                clear HO139
                                clear HO143
                                clear HO147
                                clear HO155
                                clear HO159
                                clear BK149
                                clear BK150
                                clear BK151
                                clear HR164
                                clear HR169
                                clear HB
                                have HO136 := n0_
                                have HO139 := n1_
                                have HO143 := n2_
                                have HO147 := n3_
                                have HO155 := n4_
                                have HO159 := n5_
                                have BK149 := n6_
                                have BK150 := n7_
                                have BK151 := n8_
                                have HR164 := n9_
                                have HR169 := n10_
                                have HB := n11_
                                clear n0_ n1_ n2_ n3_ n4_ n5_ n6_ n7_ n8_ n9_ n10_ n11_
                                refine start_ (n := 37) (S := fun w' => w'.cell? ⟨gb149, 0, none⟩ = some (.slice Ao45 t137.length co45) ∧ w'.cell? ⟨gb149, 1, none⟩ = some (.int .i64 t140) ∧ w'.cell? ⟨gb150, 0, none⟩ = some (.slice Ao49 t141.length co49) ∧ w'.cell? ⟨gb150, 1, none⟩ = some (.int .i64 t144)) (ds := []) #[false, false, false, false, false, false, false, false, false, false, false, false, false, false, false, false, false, false, false, false, false, false, false, false, false, false, false, false, false, false, false, false, false, false, false, false, false] (by kernel_rfl) rfl rfl ⟨(blk_cell BK149.out 0).trans rfl, (blk_cell BK149.out 1).trans rfl, (blk_cell BK150.out 0).trans rfl, (blk_cell BK150.out 1).trans rfl⟩ (fun hHeld => ?_); refine with_tabW plexuslaw03_examples.tab6 plexuslaw03_examples.bits6 (fun HT_ HW_ => ?_)
                                generalize w65.drew = w66 at HO136 HO139 HO143 HO147 HO155 HO159 BK149 BK150 BK151 HR164 HR169 HB hHeld ⊢
                                refine one_ (i := 0) (N := some 62) #[true, false, false, false, false, false, false, false, false, false, false, false, false, false, false, false, false, false, false, false, false, false, false, false, false, false, false, false, false, false, false, false, false, false, false, false, false] rfl rfl (one_of HT_.out (by kernel_rfl)) (by decide) (fun K hK => ?_)
                                refine goes_ Try.func56 (by kernel_rfl) rfl #[.int .u64 0, .int .u64 0] (by rfl) rfl rfl (by (try simp only [List.map_toArray, List.map_cons, List.map_nil]); first | done | rfl | (simp only [List.length_drop, List.length_take]; rfl)) ?_
                                with_reducible refine (seal_Step.calls 0 0 t173 _ A21.out).mono ?_
                                rintro e w' ⟨rfl, ⟨nd, rfl⟩⟩
                                refine ⟨_, rfl, ?_⟩
                                refine hK.out _ _ ⟨(blk_cell BK149.out 0).trans rfl, (blk_cell BK149.out 1).trans rfl, (blk_cell BK150.out 0).trans rfl, (blk_cell BK150.out 1).trans rfl⟩ (fun hHeld => ?_)
                                clear hK K
                                refine norm_ (a' := ?_) ?_ ?_
                                rotate_left
                                · show Act.put _ (some 62) _ = _
                                  simp only [Act.put, List.setIfInBounds_toArray, List.set_cons_zero, List.set_cons_succ, i64_w, i32_w]
                                  rfl
                                refine pure_ (i := 1) (N := some 63) (v := ?_) (a' := ?_) #[true, true, false, false, false, false, false, false, false, false, false, false, false, false, false, false, false, false, false, false, false, false, false, false, false, false, false, false, false, false, false, false, false, false, false, false, false] rfl rfl (any_of HT_.out (by kernel_rfl)) (fun _ _ _ h => h) (Or.inl ⟨by rfl, ?_⟩) ?_ ?_
                                rotate_left
                                · intro w'
                                  go_simp
                                  with_reducible rfl
                                rotate_left
                                · simp only [Act.put, List.setIfInBounds_toArray, List.set_cons_zero, List.set_cons_succ, i64_w, i32_w]
                                  rfl
                                refine pure_ (i := 2) (N := some 64) (v := ?_) (a' := ?_) #[true, true, true, false, false, false, false, false, false, false, false, false, false, false, false, false, false, false, false, false, false, false, false, false, false, false, false, false, false, false, false, false, false, false, false, false, false] rfl rfl (any_of HT_.out (by kernel_rfl)) (fun _ _ _ h => h) (Or.inl ⟨by rfl, ?_⟩) ?_ ?_
                                rotate_left
                                · intro w'
                                  go_simp
                                  with_reducible rfl
                                rotate_left
                                · simp only [Act.put, List.setIfInBounds_toArray, List.set_cons_zero, List.set_cons_succ, i64_w, i32_w]
                                  rfl
                                refine one_ (i := 3) (N := some 65) #[true, true, true, true, false, false, false, false, false, false, false, false, false, false, false, false, false, false, false, false, false, false, false, false, false, false, false, false, false, false, false, false, false, false, false, false, false] rfl rfl (one_of HT_.out (by kernel_rfl)) (by decide) (fun K hK => ?_)
                                refine goes_ Try.func56 (by kernel_rfl) rfl #[.int .u64 0, .int .u64 1] (by rfl) rfl rfl (by (try simp only [List.map_toArray, List.map_cons, List.map_nil]); first | done | rfl | (simp only [List.length_drop, List.length_take]; rfl)) ?_
                                with_reducible refine (seal_Step.calls 0 1 t174 _ A23.out).mono ?_
                                rintro e w' ⟨rfl, ⟨nd, rfl⟩⟩
                                refine ⟨_, rfl, ?_⟩
                                refine hK.out _ _ ⟨(blk_cell BK149.out 0).trans rfl, (blk_cell BK149.out 1).trans rfl, (blk_cell BK150.out 0).trans rfl, (blk_cell BK150.out 1).trans rfl⟩ (fun hHeld => ?_)
                                clear hK K
                                refine norm_ (a' := ?_) ?_ ?_
                                rotate_left
                                · show Act.put _ (some 65) _ = _
                                  simp only [Act.put, List.setIfInBounds_toArray, List.set_cons_zero, List.set_cons_succ, i64_w, i32_w]
                                  rfl
                                refine pure_ (i := 4) (N := some 66) (v := ?_) (a' := ?_) #[true, true, true, true, true, false, false, false, false, false, false, false, false, false, false, false, false, false, false, false, false, false, false, false, false, false, false, false, false, false, false, false, false, false, false, false, false] rfl rfl (any_of HT_.out (by kernel_rfl)) (fun _ _ _ h => h) (Or.inl ⟨by rfl, ?_⟩) ?_ ?_
                                rotate_left
                                · intro w'
                                  go_simp
                                  with_reducible rfl
                                rotate_left
                                · simp only [Act.put, List.setIfInBounds_toArray, List.set_cons_zero, List.set_cons_succ, i64_w, i32_w]
                                  rfl
                                refine pure_ (i := 5) (N := some 67) (v := ?_) (a' := ?_) #[true, true, true, true, true, true, false, false, false, false, false, false, false, false, false, false, false, false, false, false, false, false, false, false, false, false, false, false, false, false, false, false, false, false, false, false, false] rfl rfl (any_of HT_.out (by kernel_rfl)) (fun _ _ _ h => h) (Or.inl ⟨by rfl, ?_⟩) ?_ ?_
                                rotate_left
                                · intro w'
                                  go_simp
                                  with_reducible rfl
                                rotate_left
                                · simp only [Act.put, List.setIfInBounds_toArray, List.set_cons_zero, List.set_cons_succ, i64_w, i32_w]
                                  rfl
                                refine pure_ (i := 6) (N := some 68) (v := ?_) (a' := ?_) #[true, true, true, true, true, true, true, false, false, false, false, false, false, false, false, false, false, false, false, false, false, false, false, false, false, false, false, false, false, false, false, false, false, false, false, false, false] rfl rfl (any_of HT_.out (by kernel_rfl)) (fun _ _ _ h => h) (Or.inl ⟨by rfl, ?_⟩) ?_ ?_
                                rotate_left
                                · intro w'
                                  go_simp
                                  with_reducible rfl
                                rotate_left
                                · simp only [Act.put, List.setIfInBounds_toArray, List.set_cons_zero, List.set_cons_succ, i64_w, i32_w]
                                  rfl
                                refine one_ (i := 7) (N := some 69) #[true, true, true, true, true, true, true, true, false, false, false, false, false, false, false, false, false, false, false, false, false, false, false, false, false, false, false, false, false, false, false, false, false, false, false, false, false] rfl rfl (one_of HT_.out (by kernel_rfl)) (by decide) (fun K hK => ?_)
                                refine goes_ Try.func56 (by kernel_rfl) rfl #[.int .u64 3, .int .u64 4] (by rfl) rfl rfl (by (try simp only [List.map_toArray, List.map_cons, List.map_nil]); first | done | rfl | (simp only [List.length_drop, List.length_take]; rfl)) ?_
                                with_reducible refine (seal_Step.calls 3 4 t175 _ A25.out).mono ?_
                                rintro e w' ⟨rfl, ⟨nd, rfl⟩⟩
                                refine ⟨_, rfl, ?_⟩
                                refine hK.out _ _ ⟨(blk_cell BK149.out 0).trans rfl, (blk_cell BK149.out 1).trans rfl, (blk_cell BK150.out 0).trans rfl, (blk_cell BK150.out 1).trans rfl⟩ (fun hHeld => ?_)
                                clear hK K
                                refine norm_ (a' := ?_) ?_ ?_
                                rotate_left
                                · show Act.put _ (some 69) _ = _
                                  simp only [Act.put, List.setIfInBounds_toArray, List.set_cons_zero, List.set_cons_succ, i64_w, i32_w]
                                  rfl
                                refine one_ (i := 8) (N := some 70) #[true, true, true, true, true, true, true, true, true, false, false, false, false, false, false, false, false, false, false, false, false, false, false, false, false, false, false, false, false, false, false, false, false, false, false, false, false] rfl rfl (one_of HT_.out (by kernel_rfl)) (by decide) (fun K hK => ?_)
                                refine goes_ Try.func57 (by kernel_rfl) rfl #[.int .u64 3, .int .u64 t175] (by rfl) rfl rfl (by (try simp only [List.map_toArray, List.map_cons, List.map_nil]); first | done | rfl | (simp only [List.length_drop, List.length_take]; rfl)) ?_
                                with_reducible refine (seal_Back.calls k 3 t175 t176 _ A26.out).mono ?_
                                rintro e w' ⟨rfl, ⟨nd, rfl⟩⟩
                                refine ⟨_, rfl, ?_⟩
                                refine hK.out _ _ ⟨(blk_cell BK149.out 0).trans rfl, (blk_cell BK149.out 1).trans rfl, (blk_cell BK150.out 0).trans rfl, (blk_cell BK150.out 1).trans rfl⟩ (fun hHeld => ?_)
                                clear hK K
                                refine norm_ (a' := ?_) ?_ ?_
                                rotate_left
                                · show Act.put _ (some 70) _ = _
                                  simp only [Act.put, List.setIfInBounds_toArray, List.set_cons_zero, List.set_cons_succ, i64_w, i32_w]
                                  rfl
                                refine pure_ (i := 9) (N := some 71) (v := ?_) (a' := ?_) #[true, true, true, true, true, true, true, true, true, true, false, false, false, false, false, false, false, false, false, false, false, false, false, false, false, false, false, false, false, false, false, false, false, false, false, false, false] rfl rfl (any_of HT_.out (by kernel_rfl)) (fun _ _ _ h => h) (Or.inl ⟨by rfl, ?_⟩) ?_ ?_
                                rotate_left
                                · intro w'
                                  go_simp
                                  with_reducible rfl
                                rotate_left
                                · simp only [Act.put, List.setIfInBounds_toArray, List.set_cons_zero, List.set_cons_succ, i64_w, i32_w]
                                  rfl
                                refine pure_ (i := 10) (N := some 72) (v := ?_) (a' := ?_) #[true, true, true, true, true, true, true, true, true, true, true, false, false, false, false, false, false, false, false, false, false, false, false, false, false, false, false, false, false, false, false, false, false, false, false, false, false] rfl rfl (any_of HT_.out (by kernel_rfl)) (fun _ _ _ h => h) (Or.inl ⟨by rfl, ?_⟩) ?_ ?_
                                rotate_left
                                · intro w'
                                  go_simp
                                  with_reducible rfl
                                rotate_left
                                · simp only [Act.put, List.setIfInBounds_toArray, List.set_cons_zero, List.set_cons_succ, i64_w, i32_w]
                                  rfl
                                refine pure_ (i := 11) (N := some 73) (v := ?_) (a' := ?_) #[true, true, true, true, true, true, true, true, true, true, true, true, false, false, false, false, false, false, false, false, false, false, false, false, false, false, false, false, false, false, false, false, false, false, false, false, false] rfl rfl (any_of HT_.out (by kernel_rfl)) (fun _ _ _ h => h) (Or.inl ⟨by rfl, ?_⟩) ?_ ?_
                                rotate_left
                                · intro w'
                                  go_simp
                                  with_reducible rfl
                                rotate_left
                                · simp only [Act.put, List.setIfInBounds_toArray, List.set_cons_zero, List.set_cons_succ, i64_w, i32_w]
                                  rfl
                                refine one_ (i := 12) (N := some 74) #[true, true, true, true, true, true, true, true, true, true, true, true, true, false, false, false, false, false, false, false, false, false, false, false, false, false, false, false, false, false, false, false, false, false, false, false, false] rfl rfl (one_of HT_.out (by kernel_rfl)) (by decide) (fun K hK => ?_)
                                refine goes_ Try.func59 (by kernel_rfl) rfl #[.slice none 0 0] (by rfl) rfl rfl (by (try simp only [List.map_toArray, List.map_cons, List.map_nil]); first | done | rfl | (simp only [List.length_drop, List.length_take]; rfl)) ?_
                                refine (seal_Root.calls k _ _ ([] : List Int) t177 _ ?side1 ?side2 A28.out).mono ?_
                                (case side1 => exact Kd.C_nil _ _)
                                (case side2 => exact Nat.le_refl _)
                                rintro e w67 ⟨rfl, hb⟩
                                refine ⟨_, rfl, ?_⟩
                                have n0_ := Aside0.mk (Kd.R_below (by (with_reducible repeat (first | apply Kd.R_alloc | apply Kd.R_drewN | apply Kd.R_drew)); exact HO136.out) hb)
                                have n1_ := Aside0.mk (Kd.R_below (by (with_reducible repeat (first | apply Kd.R_alloc | apply Kd.R_drewN | apply Kd.R_drew)); exact HO139.out) hb)
                                have n2_ := Aside0.mk (Kd.R_below (by (with_reducible repeat (first | apply Kd.R_alloc | apply Kd.R_drewN | apply Kd.R_drew)); exact HO143.out) hb)
                                have n3_ := Aside0.mk (Kd.R_below (by (with_reducible repeat (first | apply Kd.R_alloc | apply Kd.R_drewN | apply Kd.R_drew)); exact HO147.out) hb)
                                have n4_ := Aside0.mk (Kd.R_below (by (with_reducible repeat (first | apply Kd.R_alloc | apply Kd.R_drewN | apply Kd.R_drew)); exact HO155.out) hb)
                                have n5_ := Aside0.mk (Kd.R_below (by (with_reducible repeat (first | apply Kd.R_alloc | apply Kd.R_drewN | apply Kd.R_drew)); exact HO159.out) hb)
                                have n6_ := Aside0.mk (blk_below (g := gb149) (o := .cells #[.slice Ao45 t137.length co45, .int .i64 t140] 80 (0, 0)) (by (with_reducible repeat (first | refine blk_drewN ?_ _ | refine blk_drew ?_ | refine blk_alloc ?_ _)); exact BK149.out) hb)
                                have n7_ := Aside0.mk (blk_below (g := gb150) (o := .cells #[.slice Ao49 t141.length co49, .int .i64 t144] 80 (0, 0)) (by (with_reducible repeat (first | refine blk_drewN ?_ _ | refine blk_drew ?_ | refine blk_alloc ?_ _)); exact BK150.out) hb)
                                have n8_ := Aside0.mk (blk_below (g := gb151) (o := .cells #[.slice Ao52 t145.length co52, .int .i64 t148] 80 (0, 0)) (by (with_reducible repeat (first | refine blk_drewN ?_ _ | refine blk_drew ?_ | refine blk_alloc ?_ _)); exact BK151.out) hb)
                                have n9_ := Aside0.mk (Kd.C_below (by repeat (first | (with_reducible exact HR164.out) | (with_reducible refine Kd.C_alloc ?_ _) | (with_reducible refine Kd.C_drewN ?_ _) | (with_reducible refine Kd.C_drew ?_) | exact HR164.out)) hb)
                                have n10_ := Aside0.mk (Kd.C_below (by repeat (first | (with_reducible exact HR169.out) | (with_reducible refine Kd.C_alloc ?_ _) | (with_reducible refine Kd.C_drewN ?_ _) | (with_reducible refine Kd.C_drew ?_) | exact HR169.out)) hb)
                                have n11_ := Aside0.mk (below_step (by repeat (first | (with_reducible first | exact HB.out | apply below_alloc | apply pw_below_drewN | apply below_drew1 | refine below_set ?_ GE149.out | refine below_set ?_ GE150.out | refine below_set ?_ GE151.out) | exact HB.out)) hb)
                                clear HO136
                                clear HO139
                                clear HO143
                                clear HO147
                                clear HO155
                                clear HO159
                                clear BK149
                                clear BK150
                                clear BK151
                                clear HR164
                                clear HR169
                                clear HB
                                have HO136 := n0_
                                have HO139 := n1_
                                have HO143 := n2_
                                have HO147 := n3_
                                have HO155 := n4_
                                have HO159 := n5_
                                have BK149 := n6_
                                have BK150 := n7_
                                have BK151 := n8_
                                have HR164 := n9_
                                have HR169 := n10_
                                have HB := n11_
                                clear n0_ n1_ n2_ n3_ n4_ n5_ n6_ n7_ n8_ n9_ n10_ n11_
                                (try clear hb)
                                (try clear hb2)
                                (try clear hk)
                                (try clear hi)
                                refine hK.out _ _ ⟨(blk_cell BK149.out 0).trans rfl, (blk_cell BK149.out 1).trans rfl, (blk_cell BK150.out 0).trans rfl, (blk_cell BK150.out 1).trans rfl⟩ (fun hHeld => ?_)
                                clear hK K
                                refine norm_ (a' := ?_) ?_ ?_
                                rotate_left
                                · show Act.put _ (some 74) _ = _
                                  simp only [Act.put, List.setIfInBounds_toArray, List.set_cons_zero, List.set_cons_succ, i64_w, i32_w]
                                  rfl
                                refine one_ (i := 13) (N := some 75) #[true, true, true, true, true, true, true, true, true, true, true, true, true, true, false, false, false, false, false, false, false, false, false, false, false, false, false, false, false, false, false, false, false, false, false, false, false] rfl rfl (one_of HT_.out (by kernel_rfl)) (by decide) (fun K hK => ?_)
                                refine goes_ Try.func67 (by kernel_rfl) rfl #[.slice none 0 0] (by rfl) rfl rfl (by (try simp only [List.map_toArray, List.map_cons, List.map_nil]); first | done | rfl | (simp only [List.length_drop, List.length_take]; rfl)) ?_
                                refine (seal_Words.calls _ _ ([] : List Int) t178 _ ?side1 ?side2 A29.out).mono ?_
                                (case side1 => exact Kd.C_nil _ _)
                                (case side2 => exact Nat.le_refl _)
                                rintro e w68 ⟨rfl, hb⟩
                                refine ⟨_, rfl, ?_⟩
                                have n0_ := Aside0.mk (Kd.R_below (by (with_reducible repeat (first | apply Kd.R_alloc | apply Kd.R_drewN | apply Kd.R_drew)); exact HO136.out) hb)
                                have n1_ := Aside0.mk (Kd.R_below (by (with_reducible repeat (first | apply Kd.R_alloc | apply Kd.R_drewN | apply Kd.R_drew)); exact HO139.out) hb)
                                have n2_ := Aside0.mk (Kd.R_below (by (with_reducible repeat (first | apply Kd.R_alloc | apply Kd.R_drewN | apply Kd.R_drew)); exact HO143.out) hb)
                                have n3_ := Aside0.mk (Kd.R_below (by (with_reducible repeat (first | apply Kd.R_alloc | apply Kd.R_drewN | apply Kd.R_drew)); exact HO147.out) hb)
                                have n4_ := Aside0.mk (Kd.R_below (by (with_reducible repeat (first | apply Kd.R_alloc | apply Kd.R_drewN | apply Kd.R_drew)); exact HO155.out) hb)
                                have n5_ := Aside0.mk (Kd.R_below (by (with_reducible repeat (first | apply Kd.R_alloc | apply Kd.R_drewN | apply Kd.R_drew)); exact HO159.out) hb)
                                have n6_ := Aside0.mk (blk_below (g := gb149) (o := .cells #[.slice Ao45 t137.length co45, .int .i64 t140] 80 (0, 0)) (by (with_reducible repeat (first | refine blk_drewN ?_ _ | refine blk_drew ?_ | refine blk_alloc ?_ _)); exact BK149.out) hb)
                                have n7_ := Aside0.mk (blk_below (g := gb150) (o := .cells #[.slice Ao49 t141.length co49, .int .i64 t144] 80 (0, 0)) (by (with_reducible repeat (first | refine blk_drewN ?_ _ | refine blk_drew ?_ | refine blk_alloc ?_ _)); exact BK150.out) hb)
                                have n8_ := Aside0.mk (blk_below (g := gb151) (o := .cells #[.slice Ao52 t145.length co52, .int .i64 t148] 80 (0, 0)) (by (with_reducible repeat (first | refine blk_drewN ?_ _ | refine blk_drew ?_ | refine blk_alloc ?_ _)); exact BK151.out) hb)
                                have n9_ := Aside0.mk (Kd.C_below (by repeat (first | (with_reducible exact HR164.out) | (with_reducible refine Kd.C_alloc ?_ _) | (with_reducible refine Kd.C_drewN ?_ _) | (with_reducible refine Kd.C_drew ?_) | exact HR164.out)) hb)
                                have n10_ := Aside0.mk (Kd.C_below (by repeat (first | (with_reducible exact HR169.out) | (with_reducible refine Kd.C_alloc ?_ _) | (with_reducible refine Kd.C_drewN ?_ _) | (with_reducible refine Kd.C_drew ?_) | exact HR169.out)) hb)
                                have n11_ := Aside0.mk (below_step (by repeat (first | (with_reducible first | exact HB.out | apply below_alloc | apply pw_below_drewN | apply below_drew1 | refine below_set ?_ GE149.out | refine below_set ?_ GE150.out | refine below_set ?_ GE151.out) | exact HB.out)) hb)
                                clear HO136
                                clear HO139
                                clear HO143
                                clear HO147
                                clear HO155
                                clear HO159
                                clear BK149
                                clear BK150
                                clear BK151
                                clear HR164
                                clear HR169
                                clear HB
                                have HO136 := n0_
                                have HO139 := n1_
                                have HO143 := n2_
                                have HO147 := n3_
                                have HO155 := n4_
                                have HO159 := n5_
                                have BK149 := n6_
                                have BK150 := n7_
                                have BK151 := n8_
                                have HR164 := n9_
                                have HR169 := n10_
                                have HB := n11_
                                clear n0_ n1_ n2_ n3_ n4_ n5_ n6_ n7_ n8_ n9_ n10_ n11_
                                (try clear hb)
                                (try clear hb2)
                                (try clear hk)
                                (try clear hi)
                                refine hK.out _ _ ⟨(blk_cell BK149.out 0).trans rfl, (blk_cell BK149.out 1).trans rfl, (blk_cell BK150.out 0).trans rfl, (blk_cell BK150.out 1).trans rfl⟩ (fun hHeld => ?_)
                                clear hK K
                                refine norm_ (a' := ?_) ?_ ?_
                                rotate_left
                                · show Act.put _ (some 75) _ = _
                                  simp only [Act.put, List.setIfInBounds_toArray, List.set_cons_zero, List.set_cons_succ, i64_w, i32_w]
                                  rfl
                                refine pure_ (i := 14) (N := some 76) (v := ?_) (a' := ?_) #[true, true, true, true, true, true, true, true, true, true, true, true, true, true, true, false, false, false, false, false, false, false, false, false, false, false, false, false, false, false, false, false, false, false, false, false, false] rfl rfl (any_of HT_.out (by kernel_rfl)) (fun _ _ _ h => h) (Or.inl ⟨by rfl, ?_⟩) ?_ ?_
                                rotate_left
                                · intro w'
                                  go_simp
                                  with_reducible rfl
                                rotate_left
                                · simp only [Act.put, List.setIfInBounds_toArray, List.set_cons_zero, List.set_cons_succ, i64_w, i32_w]
                                  rfl
                                refine pure_ (i := 15) (N := some 77) (v := ?_) (a' := ?_) #[true, true, true, true, true, true, true, true, true, true, true, true, true, true, true, true, false, false, false, false, false, false, false, false, false, false, false, false, false, false, false, false, false, false, false, false, false] rfl rfl (any_of HT_.out (by kernel_rfl)) (fun _ _ _ h => h) (Or.inl ⟨by rfl, ?_⟩) ?_ ?_
                                rotate_left
                                · intro w'
                                  go_simp
                                  with_reducible rfl
                                rotate_left
                                · simp only [Act.put, List.setIfInBounds_toArray, List.set_cons_zero, List.set_cons_succ, i64_w, i32_w]
                                  rfl
                                refine pure_ (i := 16) (N := some 78) (v := ?_) (a' := ?_) #[true, true, true, true, true, true, true, true, true, true, true, true, true, true, true, true, true, false, false, false, false, false, false, false, false, false, false, false, false, false, false, false, false, false, false, false, false] rfl rfl (any_of HT_.out (by kernel_rfl)) (fun _ _ _ h => h) (Or.inl ⟨by rfl, ?_⟩) ?_ ?_
                                rotate_left
                                · intro w'
                                  go_simp
                                  with_reducible rfl
                                rotate_left
                                · simp only [Act.put, List.setIfInBounds_toArray, List.set_cons_zero, List.set_cons_succ, i64_w, i32_w]
                                  rfl
                                refine pure_ (i := 17) (N := some 79) (v := ?_) (a' := ?_) #[true, true, true, true, true, true, true, true, true, true, true, true, true, true, true, true, true, true, false, false, false, false, false, false, false, false, false, false, false, false, false, false, false, false, false, false, false] rfl rfl (any_of HT_.out (by kernel_rfl)) (fun _ _ _ h => h) (Or.inl ⟨by rfl, ?_⟩) ?_ ?_
                                rotate_left
                                · intro w'
                                  go_simp
                                  with_reducible rfl
                                rotate_left
                                · simp only [Act.put, List.setIfInBounds_toArray, List.set_cons_zero, List.set_cons_succ, i64_w, i32_w]
                                  rfl
                                refine pure_ (i := 19) (N := some 81) (v := ?_) (a' := ?_) #[true, true, true, true, true, true, true, true, true, true, true, true, true, true, true, true, true, true, false, true, false, false, false, false, false, false, false, false, false, false, false, false, false, false, false, false, false] rfl rfl (any_of HT_.out (by kernel_rfl)) (fun _ _ _ h => h) (Or.inl ⟨by rfl, ?_⟩) ?_ ?_
                                rotate_left
                                · intro w'
                                  go_simp
                                  with_reducible rfl
                                rotate_left
                                · simp only [Act.put, List.setIfInBounds_toArray, List.set_cons_zero, List.set_cons_succ, i64_w, i32_w]
                                  rfl
                                refine pure_ (i := 22) (N := some 84) (v := ?_) (a' := ?_) #[true, true, true, true, true, true, true, true, true, true, true, true, true, true, true, true, true, true, false, true, false, false, true, false, false, false, false, false, false, false, false, false, false, false, false, false, false] rfl rfl (any_of HT_.out (by kernel_rfl)) (fun _ _ _ h => h) (Or.inl ⟨by rfl, ?_⟩) ?_ ?_
                                rotate_left
                                · intro w'
                                  go_simp
                                  with_reducible rfl
                                rotate_left
                                · simp only [Act.put, List.setIfInBounds_toArray, List.set_cons_zero, List.set_cons_succ, i64_w, i32_w]
                                  rfl
                                refine take_ (i := 20) (N := some 82) (v := ?_) (a' := ?_) #[true, true, true, true, true, true, true, true, true, true, true, true, true, true, true, true, true, true, false, true, true, false, true, false, false, false, false, false, false, false, false, false, false, false, false, false, false] rfl rfl (take_ofW HT_.out HW_.out (by kernel_rfl)) (fun _ _ _ h => h) (Or.inl ⟨by rfl, ?_⟩) hHeld ?_ ?_
                                rotate_left
                                · rintro w' ⟨s0, s1, s2, s3⟩
                                  go_simp
                                  with_reducible rfl
                                rotate_left
                                · simp only [Act.put, List.setIfInBounds_toArray, List.set_cons_zero, List.set_cons_succ, i64_w, i32_w]
                                  rfl
                                refine pure_ (i := 21) (N := some 83) (v := ?_) (a' := ?_) #[true, true, true, true, true, true, true, true, true, true, true, true, true, true, true, true, true, true, false, true, true, true, true, false, false, false, false, false, false, false, false, false, false, false, false, false, false] rfl rfl (any_of HT_.out (by kernel_rfl)) (fun _ _ _ h => h) (Or.inl ⟨by rfl, ?_⟩) ?_ ?_
                                rotate_left
                                · intro w'
                                  go_simp
                                  with_reducible rfl
                                rotate_left
                                · simp only [Act.put, List.setIfInBounds_toArray, List.set_cons_zero, List.set_cons_succ, i64_w, i32_w]
                                  rfl
                                refine one_ (i := 18) (N := some 80) #[true, true, true, true, true, true, true, true, true, true, true, true, true, true, true, true, true, true, true, true, true, true, true, false, false, false, false, false, false, false, false, false, false, false, false, false, false] rfl rfl (one_of HT_.out (by kernel_rfl)) (by decide) (fun K hK => ?_)
                                refine goes_ Try.func59 (by kernel_rfl) rfl #[.slice Ao38 y134.length co38] (by rfl) rfl rfl (by (try simp only [List.map_toArray, List.map_cons, List.map_nil]); first | done | rfl | (simp only [List.length_drop, List.length_take]; rfl)) ?_
                                with_reducible refine (seal_Root.calls k _ _ y134 t179 _ ?side1 ?side2 A31.out).mono ?_
                                (case side1 => repeat (first | exact (Kd.R_reads' HO136.out).2.2 | (with_reducible refine Kd.C_alloc ?_ _) | (with_reducible refine Kd.C_drewN ?_ _) | (with_reducible refine Kd.C_drew ?_)))
                                (case side2 => exact (Kd.R_reads' HO136.out).2.1)
                                rintro e w69 ⟨rfl, hb⟩
                                refine ⟨_, rfl, ?_⟩
                                have n0_ := Aside0.mk (Kd.R_below (by (with_reducible repeat (first | apply Kd.R_alloc | apply Kd.R_drewN | apply Kd.R_drew)); exact HO136.out) hb)
                                have n1_ := Aside0.mk (Kd.R_below (by (with_reducible repeat (first | apply Kd.R_alloc | apply Kd.R_drewN | apply Kd.R_drew)); exact HO139.out) hb)
                                have n2_ := Aside0.mk (Kd.R_below (by (with_reducible repeat (first | apply Kd.R_alloc | apply Kd.R_drewN | apply Kd.R_drew)); exact HO143.out) hb)
                                have n3_ := Aside0.mk (Kd.R_below (by (with_reducible repeat (first | apply Kd.R_alloc | apply Kd.R_drewN | apply Kd.R_drew)); exact HO147.out) hb)
                                have n4_ := Aside0.mk (Kd.R_below (by (with_reducible repeat (first | apply Kd.R_alloc | apply Kd.R_drewN | apply Kd.R_drew)); exact HO155.out) hb)
                                have n5_ := Aside0.mk (Kd.R_below (by (with_reducible repeat (first | apply Kd.R_alloc | apply Kd.R_drewN | apply Kd.R_drew)); exact HO159.out) hb)
                                have n6_ := Aside0.mk (blk_below (g := gb149) (o := .cells #[.slice Ao45 t137.length co45, .int .i64 t140] 80 (0, 0)) (by (with_reducible repeat (first | refine blk_drewN ?_ _ | refine blk_drew ?_ | refine blk_alloc ?_ _)); exact BK149.out) hb)
                                have n7_ := Aside0.mk (blk_below (g := gb150) (o := .cells #[.slice Ao49 t141.length co49, .int .i64 t144] 80 (0, 0)) (by (with_reducible repeat (first | refine blk_drewN ?_ _ | refine blk_drew ?_ | refine blk_alloc ?_ _)); exact BK150.out) hb)
                                have n8_ := Aside0.mk (blk_below (g := gb151) (o := .cells #[.slice Ao52 t145.length co52, .int .i64 t148] 80 (0, 0)) (by (with_reducible repeat (first | refine blk_drewN ?_ _ | refine blk_drew ?_ | refine blk_alloc ?_ _)); exact BK151.out) hb)
                                have n9_ := Aside0.mk (Kd.C_below (by repeat (first | (with_reducible exact HR164.out) | (with_reducible refine Kd.C_alloc ?_ _) | (with_reducible refine Kd.C_drewN ?_ _) | (with_reducible refine Kd.C_drew ?_) | exact HR164.out)) hb)
                                have n10_ := Aside0.mk (Kd.C_below (by repeat (first | (with_reducible exact HR169.out) | (with_reducible refine Kd.C_alloc ?_ _) | (with_reducible refine Kd.C_drewN ?_ _) | (with_reducible refine Kd.C_drew ?_) | exact HR169.out)) hb)
                                have n11_ := Aside0.mk (below_step (by repeat (first | (with_reducible first | exact HB.out | apply below_alloc | apply pw_below_drewN | apply below_drew1 | refine below_set ?_ GE149.out | refine below_set ?_ GE150.out | refine below_set ?_ GE151.out) | exact HB.out)) hb)
                                clear HO136
                                clear HO139
                                clear HO143
                                clear HO147
                                clear HO155
                                clear HO159
                                clear BK149
                                clear BK150
                                clear BK151
                                clear HR164
                                clear HR169
                                clear HB
                                have HO136 := n0_
                                have HO139 := n1_
                                have HO143 := n2_
                                have HO147 := n3_
                                have HO155 := n4_
                                have HO159 := n5_
                                have BK149 := n6_
                                have BK150 := n7_
                                have BK151 := n8_
                                have HR164 := n9_
                                have HR169 := n10_
                                have HB := n11_
                                clear n0_ n1_ n2_ n3_ n4_ n5_ n6_ n7_ n8_ n9_ n10_ n11_
                                (try clear hb)
                                (try clear hb2)
                                (try clear hk)
                                (try clear hi)
                                refine hK.out _ _ ⟨(blk_cell BK149.out 0).trans rfl, (blk_cell BK149.out 1).trans rfl, (blk_cell BK150.out 0).trans rfl, (blk_cell BK150.out 1).trans rfl⟩ (fun hHeld => ?_)
                                clear hK K
                                refine norm_ (a' := ?_) ?_ ?_
                                rotate_left
                                · show Act.put _ (some 80) _ = _
                                  simp only [Act.put, List.setIfInBounds_toArray, List.set_cons_zero, List.set_cons_succ, i64_w, i32_w]
                                  rfl
                                refine one_ (i := 23) (N := some 85) #[true, true, true, true, true, true, true, true, true, true, true, true, true, true, true, true, true, true, true, true, true, true, true, true, false, false, false, false, false, false, false, false, false, false, false, false, false] rfl rfl (one_of HT_.out (by kernel_rfl)) (by decide) (fun K hK => ?_)
                                refine goes_ Try.func61 (by kernel_rfl) rfl #[.int .u64 t179, .agg #[.int .i64 3, .slice Ao45 t137.length co45], .agg #[.int .i64 2, .int .u64 7]] (by rfl) rfl rfl (by (try simp only [List.map_toArray, List.map_cons, List.map_nil]); first | done | rfl | (simp only [List.length_drop, List.length_take]; rfl)) ?_
                                with_reducible refine (plexuslaw03_check.calls k t179 3 _ _ t137 2 7 t180 _ ?side1 ?side2 A32.out).mono ?_
                                (case side1 => repeat (first | exact (Kd.R_reads' HO139.out).2.2 | (with_reducible refine Kd.C_alloc ?_ _) | (with_reducible refine Kd.C_drewN ?_ _) | (with_reducible refine Kd.C_drew ?_)))
                                (case side2 => exact (Kd.R_reads' HO139.out).2.1)
                                rintro e w70 ⟨rfl, hb⟩
                                refine ⟨_, rfl, ?_⟩
                                have n0_ := Aside0.mk (Kd.R_below (by (with_reducible repeat (first | apply Kd.R_alloc | apply Kd.R_drewN | apply Kd.R_drew)); exact HO136.out) hb)
                                have n1_ := Aside0.mk (Kd.R_below (by (with_reducible repeat (first | apply Kd.R_alloc | apply Kd.R_drewN | apply Kd.R_drew)); exact HO139.out) hb)
                                have n2_ := Aside0.mk (Kd.R_below (by (with_reducible repeat (first | apply Kd.R_alloc | apply Kd.R_drewN | apply Kd.R_drew)); exact HO143.out) hb)
                                have n3_ := Aside0.mk (Kd.R_below (by (with_reducible repeat (first | apply Kd.R_alloc | apply Kd.R_drewN | apply Kd.R_drew)); exact HO147.out) hb)
                                have n4_ := Aside0.mk (Kd.R_below (by (with_reducible repeat (first | apply Kd.R_alloc | apply Kd.R_drewN | apply Kd.R_drew)); exact HO155.out) hb)
                                have n5_ := Aside0.mk (Kd.R_below (by (with_reducible repeat (first | apply Kd.R_alloc | apply Kd.R_drewN | apply Kd.R_drew)); exact HO159.out) hb)
                                have n6_ := Aside0.mk (blk_below (g := gb149) (o := .cells #[.slice Ao45 t137.length co45, .int .i64 t140] 80 (0, 0)) (by (with_reducible repeat (first | refine blk_drewN ?_ _ | refine blk_drew ?_ | refine blk_alloc ?_ _)); exact BK149.out) hb)
                                have n7_ := Aside0.mk (blk_below (g := gb150) (o := .cells #[.slice Ao49 t141.length co49, .int .i64 t144] 80 (0, 0)) (by (with_reducible repeat (first | refine blk_drewN ?_ _ | refine blk_drew ?_ | refine blk_alloc ?_ _)); exact BK150.out) hb)
                                have n8_ := Aside0.mk (blk_below (g := gb151) (o := .cells #[.slice Ao52 t145.length co52, .int .i64 t148] 80 (0, 0)) (by (with_reducible repeat (first | refine blk_drewN ?_ _ | refine blk_drew ?_ | refine blk_alloc ?_ _)); exact BK151.out) hb)
                                have n9_ := Aside0.mk (Kd.C_below (by repeat (first | (with_reducible exact HR164.out) | (with_reducible refine Kd.C_alloc ?_ _) | (with_reducible refine Kd.C_drewN ?_ _) | (with_reducible refine Kd.C_drew ?_) | exact HR164.out)) hb)
                                have n10_ := Aside0.mk (Kd.C_below (by repeat (first | (with_reducible exact HR169.out) | (with_reducible refine Kd.C_alloc ?_ _) | (with_reducible refine Kd.C_drewN ?_ _) | (with_reducible refine Kd.C_drew ?_) | exact HR169.out)) hb)
                                have n11_ := Aside0.mk (below_step (by repeat (first | (with_reducible first | exact HB.out | apply below_alloc | apply pw_below_drewN | apply below_drew1 | refine below_set ?_ GE149.out | refine below_set ?_ GE150.out | refine below_set ?_ GE151.out) | exact HB.out)) hb)
                                clear HO136
                                clear HO139
                                clear HO143
                                clear HO147
                                clear HO155
                                clear HO159
                                clear BK149
                                clear BK150
                                clear BK151
                                clear HR164
                                clear HR169
                                clear HB
                                have HO136 := n0_
                                have HO139 := n1_
                                have HO143 := n2_
                                have HO147 := n3_
                                have HO155 := n4_
                                have HO159 := n5_
                                have BK149 := n6_
                                have BK150 := n7_
                                have BK151 := n8_
                                have HR164 := n9_
                                have HR169 := n10_
                                have HB := n11_
                                clear n0_ n1_ n2_ n3_ n4_ n5_ n6_ n7_ n8_ n9_ n10_ n11_
                                (try clear hb)
                                (try clear hb2)
                                (try clear hk)
                                (try clear hi)
                                refine hK.out _ _ ⟨(blk_cell BK149.out 0).trans rfl, (blk_cell BK149.out 1).trans rfl, (blk_cell BK150.out 0).trans rfl, (blk_cell BK150.out 1).trans rfl⟩ (fun hHeld => ?_)
                                clear hK K
                                refine norm_ (a' := ?_) ?_ ?_
                                rotate_left
                                · show Act.put _ (some 85) _ = _
                                  simp only [Act.put, List.setIfInBounds_toArray, List.set_cons_zero, List.set_cons_succ, i64_w, i32_w]
                                  rfl
                                refine pure_ (i := 24) (N := some 86) (v := ?_) (a' := ?_) #[true, true, true, true, true, true, true, true, true, true, true, true, true, true, true, true, true, true, true, true, true, true, true, true, true, false, false, false, false, false, false, false, false, false, false, false, false] rfl rfl (any_of HT_.out (by kernel_rfl)) (fun _ _ _ h => h) (Or.inl ⟨by rfl, ?_⟩) ?_ ?_
                                rotate_left
                                · intro w'
                                  go_simp
                                  with_reducible rfl
                                rotate_left
                                · simp only [Act.put, List.setIfInBounds_toArray, List.set_cons_zero, List.set_cons_succ, i64_w, i32_w]
                                  rfl
                                refine pure_ (i := 25) (N := some 87) (v := ?_) (a' := ?_) #[true, true, true, true, true, true, true, true, true, true, true, true, true, true, true, true, true, true, true, true, true, true, true, true, true, true, false, false, false, false, false, false, false, false, false, false, false] rfl rfl (any_of HT_.out (by kernel_rfl)) (fun _ _ _ h => h) (Or.inl ⟨by rfl, ?_⟩) ?_ ?_
                                rotate_left
                                · intro w'
                                  go_simp
                                  with_reducible rfl
                                rotate_left
                                · simp only [Act.put, List.setIfInBounds_toArray, List.set_cons_zero, List.set_cons_succ, i64_w, i32_w]
                                  rfl
                                refine pure_ (i := 26) (N := some 88) (v := ?_) (a' := ?_) #[true, true, true, true, true, true, true, true, true, true, true, true, true, true, true, true, true, true, true, true, true, true, true, true, true, true, true, false, false, false, false, false, false, false, false, false, false] rfl rfl (any_of HT_.out (by kernel_rfl)) (fun _ _ _ h => h) (Or.inl ⟨by rfl, ?_⟩) ?_ ?_
                                rotate_left
                                · intro w'
                                  go_simp
                                  with_reducible rfl
                                rotate_left
                                · simp only [Act.put, List.setIfInBounds_toArray, List.set_cons_zero, List.set_cons_succ, i64_w, i32_w]
                                  rfl
                                refine pure_ (i := 27) (N := some 89) (v := ?_) (a' := ?_) #[true, true, true, true, true, true, true, true, true, true, true, true, true, true, true, true, true, true, true, true, true, true, true, true, true, true, true, true, false, false, false, false, false, false, false, false, false] rfl rfl (any_of HT_.out (by kernel_rfl)) (fun _ _ _ h => h) (Or.inl ⟨by rfl, ?_⟩) ?_ ?_
                                rotate_left
                                · intro w'
                                  go_simp
                                  with_reducible rfl
                                rotate_left
                                · simp only [Act.put, List.setIfInBounds_toArray, List.set_cons_zero, List.set_cons_succ, i64_w, i32_w]
                                  rfl
                                refine pure_ (i := 29) (N := some 91) (v := ?_) (a' := ?_) #[true, true, true, true, true, true, true, true, true, true, true, true, true, true, true, true, true, true, true, true, true, true, true, true, true, true, true, true, false, true, false, false, false, false, false, false, false] rfl rfl (any_of HT_.out (by kernel_rfl)) (fun _ _ _ h => h) (Or.inl ⟨by rfl, ?_⟩) ?_ ?_
                                rotate_left
                                · intro w'
                                  go_simp
                                  with_reducible rfl
                                rotate_left
                                · simp only [Act.put, List.setIfInBounds_toArray, List.set_cons_zero, List.set_cons_succ, i64_w, i32_w]
                                  rfl
                                refine pure_ (i := 32) (N := some 94) (v := ?_) (a' := ?_) #[true, true, true, true, true, true, true, true, true, true, true, true, true, true, true, true, true, true, true, true, true, true, true, true, true, true, true, true, false, true, false, false, true, false, false, false, false] rfl rfl (any_of HT_.out (by kernel_rfl)) (fun _ _ _ h => h) (Or.inl ⟨by rfl, ?_⟩) ?_ ?_
                                rotate_left
                                · intro w'
                                  go_simp
                                  with_reducible rfl
                                rotate_left
                                · simp only [Act.put, List.setIfInBounds_toArray, List.set_cons_zero, List.set_cons_succ, i64_w, i32_w]
                                  rfl
                                refine take_ (i := 30) (N := some 92) (v := ?_) (a' := ?_) #[true, true, true, true, true, true, true, true, true, true, true, true, true, true, true, true, true, true, true, true, true, true, true, true, true, true, true, true, false, true, true, false, true, false, false, false, false] rfl rfl (take_ofW HT_.out HW_.out (by kernel_rfl)) (fun _ _ _ h => h) (Or.inl ⟨by rfl, ?_⟩) hHeld ?_ ?_
                                rotate_left
                                · rintro w' ⟨s0, s1, s2, s3⟩
                                  go_simp
                                  with_reducible rfl
                                rotate_left
                                · simp only [Act.put, List.setIfInBounds_toArray, List.set_cons_zero, List.set_cons_succ, i64_w, i32_w]
                                  rfl
                                refine pure_ (i := 31) (N := some 93) (v := ?_) (a' := ?_) #[true, true, true, true, true, true, true, true, true, true, true, true, true, true, true, true, true, true, true, true, true, true, true, true, true, true, true, true, false, true, true, true, true, false, false, false, false] rfl rfl (any_of HT_.out (by kernel_rfl)) (fun _ _ _ h => h) (Or.inl ⟨by rfl, ?_⟩) ?_ ?_
                                rotate_left
                                · intro w'
                                  go_simp
                                  with_reducible rfl
                                rotate_left
                                · simp only [Act.put, List.setIfInBounds_toArray, List.set_cons_zero, List.set_cons_succ, i64_w, i32_w]
                                  rfl
                                refine one_ (i := 28) (N := some 90) #[true, true, true, true, true, true, true, true, true, true, true, true, true, true, true, true, true, true, true, true, true, true, true, true, true, true, true, true, true, true, true, true, true, false, false, false, false] rfl rfl (one_of HT_.out (by kernel_rfl)) (by decide) (fun K hK => ?_)
                                refine goes_ Try.func59 (by kernel_rfl) rfl #[.slice Ao38 y134.length co38] (by rfl) rfl rfl (by (try simp only [List.map_toArray, List.map_cons, List.map_nil]); first | done | rfl | (simp only [List.length_drop, List.length_take]; rfl)) ?_
                                with_reducible refine (seal_Root.calls k _ _ y134 t181 _ ?side1 ?side2 A34.out).mono ?_
                                (case side1 => repeat (first | exact (Kd.R_reads' HO136.out).2.2 | (with_reducible refine Kd.C_alloc ?_ _) | (with_reducible refine Kd.C_drewN ?_ _) | (with_reducible refine Kd.C_drew ?_)))
                                (case side2 => exact (Kd.R_reads' HO136.out).2.1)
                                rintro e w71 ⟨rfl, hb⟩
                                refine ⟨_, rfl, ?_⟩
                                have n0_ := Aside0.mk (Kd.R_below (by (with_reducible repeat (first | apply Kd.R_alloc | apply Kd.R_drewN | apply Kd.R_drew)); exact HO136.out) hb)
                                have n1_ := Aside0.mk (Kd.R_below (by (with_reducible repeat (first | apply Kd.R_alloc | apply Kd.R_drewN | apply Kd.R_drew)); exact HO139.out) hb)
                                have n2_ := Aside0.mk (Kd.R_below (by (with_reducible repeat (first | apply Kd.R_alloc | apply Kd.R_drewN | apply Kd.R_drew)); exact HO143.out) hb)
                                have n3_ := Aside0.mk (Kd.R_below (by (with_reducible repeat (first | apply Kd.R_alloc | apply Kd.R_drewN | apply Kd.R_drew)); exact HO147.out) hb)
                                have n4_ := Aside0.mk (Kd.R_below (by (with_reducible repeat (first | apply Kd.R_alloc | apply Kd.R_drewN | apply Kd.R_drew)); exact HO155.out) hb)
                                have n5_ := Aside0.mk (Kd.R_below (by (with_reducible repeat (first | apply Kd.R_alloc | apply Kd.R_drewN | apply Kd.R_drew)); exact HO159.out) hb)
                                have n6_ := Aside0.mk (blk_below (g := gb149) (o := .cells #[.slice Ao45 t137.length co45, .int .i64 t140] 80 (0, 0)) (by (with_reducible repeat (first | refine blk_drewN ?_ _ | refine blk_drew ?_ | refine blk_alloc ?_ _)); exact BK149.out) hb)
                                have n7_ := Aside0.mk (blk_below (g := gb150) (o := .cells #[.slice Ao49 t141.length co49, .int .i64 t144] 80 (0, 0)) (by (with_reducible repeat (first | refine blk_drewN ?_ _ | refine blk_drew ?_ | refine blk_alloc ?_ _)); exact BK150.out) hb)
                                have n8_ := Aside0.mk (blk_below (g := gb151) (o := .cells #[.slice Ao52 t145.length co52, .int .i64 t148] 80 (0, 0)) (by (with_reducible repeat (first | refine blk_drewN ?_ _ | refine blk_drew ?_ | refine blk_alloc ?_ _)); exact BK151.out) hb)
                                have n9_ := Aside0.mk (Kd.C_below (by repeat (first | (with_reducible exact HR164.out) | (with_reducible refine Kd.C_alloc ?_ _) | (with_reducible refine Kd.C_drewN ?_ _) | (with_reducible refine Kd.C_drew ?_) | exact HR164.out)) hb)
                                have n10_ := Aside0.mk (Kd.C_below (by repeat (first | (with_reducible exact HR169.out) | (with_reducible refine Kd.C_alloc ?_ _) | (with_reducible refine Kd.C_drewN ?_ _) | (with_reducible refine Kd.C_drew ?_) | exact HR169.out)) hb)
                                have n11_ := Aside0.mk (below_step (by repeat (first | (with_reducible first | exact HB.out | apply below_alloc | apply pw_below_drewN | apply below_drew1 | refine below_set ?_ GE149.out | refine below_set ?_ GE150.out | refine below_set ?_ GE151.out) | exact HB.out)) hb)
                                clear HO136
                                clear HO139
                                clear HO143
                                clear HO147
                                clear HO155
                                clear HO159
                                clear BK149
                                clear BK150
                                clear BK151
                                clear HR164
                                clear HR169
                                clear HB
                                have HO136 := n0_
                                have HO139 := n1_
                                have HO143 := n2_
                                have HO147 := n3_
                                have HO155 := n4_
                                have HO159 := n5_
                                have BK149 := n6_
                                have BK150 := n7_
                                have BK151 := n8_
                                have HR164 := n9_
                                have HR169 := n10_
                                have HB := n11_
                                clear n0_ n1_ n2_ n3_ n4_ n5_ n6_ n7_ n8_ n9_ n10_ n11_
                                (try clear hb)
                                (try clear hb2)
                                (try clear hk)
                                (try clear hi)
                                refine hK.out _ _ ⟨(blk_cell BK149.out 0).trans rfl, (blk_cell BK149.out 1).trans rfl, (blk_cell BK150.out 0).trans rfl, (blk_cell BK150.out 1).trans rfl⟩ (fun hHeld => ?_)
                                clear hK K
                                refine norm_ (a' := ?_) ?_ ?_
                                rotate_left
                                · show Act.put _ (some 90) _ = _
                                  simp only [Act.put, List.setIfInBounds_toArray, List.set_cons_zero, List.set_cons_succ, i64_w, i32_w]
                                  rfl
                                refine one_ (i := 33) (N := some 95) #[true, true, true, true, true, true, true, true, true, true, true, true, true, true, true, true, true, true, true, true, true, true, true, true, true, true, true, true, true, true, true, true, true, true, false, false, false] rfl rfl (one_of HT_.out (by kernel_rfl)) (by decide) (fun K hK => ?_)
                                refine goes_ Try.func61 (by kernel_rfl) rfl #[.int .u64 t181, .agg #[.int .i64 3, .slice Ao49 t141.length co49], .agg #[.int .i64 2, .int .u64 7]] (by rfl) rfl rfl (by (try simp only [List.map_toArray, List.map_cons, List.map_nil]); first | done | rfl | (simp only [List.length_drop, List.length_take]; rfl)) ?_
                                with_reducible refine (plexuslaw03_check.calls k t181 3 _ _ t141 2 7 t182 _ ?side1 ?side2 A35.out).mono ?_
                                (case side1 => repeat (first | exact (Kd.R_reads' HO143.out).2.2 | (with_reducible refine Kd.C_alloc ?_ _) | (with_reducible refine Kd.C_drewN ?_ _) | (with_reducible refine Kd.C_drew ?_)))
                                (case side2 => exact (Kd.R_reads' HO143.out).2.1)
                                rintro e w72 ⟨rfl, hb⟩
                                refine ⟨_, rfl, ?_⟩
                                have n0_ := Aside0.mk (Kd.R_below (by (with_reducible repeat (first | apply Kd.R_alloc | apply Kd.R_drewN | apply Kd.R_drew)); exact HO136.out) hb)
                                have n1_ := Aside0.mk (Kd.R_below (by (with_reducible repeat (first | apply Kd.R_alloc | apply Kd.R_drewN | apply Kd.R_drew)); exact HO139.out) hb)
                                have n2_ := Aside0.mk (Kd.R_below (by (with_reducible repeat (first | apply Kd.R_alloc | apply Kd.R_drewN | apply Kd.R_drew)); exact HO143.out) hb)
                                have n3_ := Aside0.mk (Kd.R_below (by (with_reducible repeat (first | apply Kd.R_alloc | apply Kd.R_drewN | apply Kd.R_drew)); exact HO147.out) hb)
                                have n4_ := Aside0.mk (Kd.R_below (by (with_reducible repeat (first | apply Kd.R_alloc | apply Kd.R_drewN | apply Kd.R_drew)); exact HO155.out) hb)
                                have n5_ := Aside0.mk (Kd.R_below (by (with_reducible repeat (first | apply Kd.R_alloc | apply Kd.R_drewN | apply Kd.R_drew)); exact HO159.out) hb)
                                have n6_ := Aside0.mk (blk_below (g := gb149) (o := .cells #[.slice Ao45 t137.length co45, .int .i64 t140] 80 (0, 0)) (by (with_reducible repeat (first | refine blk_drewN ?_ _ | refine blk_drew ?_ | refine blk_alloc ?_ _)); exact BK149.out) hb)
                                have n7_ := Aside0.mk (blk_below (g := gb150) (o := .cells #[.slice Ao49 t141.length co49, .int .i64 t144] 80 (0, 0)) (by (with_reducible repeat (first | refine blk_drewN ?_ _ | refine blk_drew ?_ | refine blk_alloc ?_ _)); exact BK150.out) hb)
                                have n8_ := Aside0.mk (blk_below (g := gb151) (o := .cells #[.slice Ao52 t145.length co52, .int .i64 t148] 80 (0, 0)) (by (with_reducible repeat (first | refine blk_drewN ?_ _ | refine blk_drew ?_ | refine blk_alloc ?_ _)); exact BK151.out) hb)
                                have n9_ := Aside0.mk (Kd.C_below (by repeat (first | (with_reducible exact HR164.out) | (with_reducible refine Kd.C_alloc ?_ _) | (with_reducible refine Kd.C_drewN ?_ _) | (with_reducible refine Kd.C_drew ?_) | exact HR164.out)) hb)
                                have n10_ := Aside0.mk (Kd.C_below (by repeat (first | (with_reducible exact HR169.out) | (with_reducible refine Kd.C_alloc ?_ _) | (with_reducible refine Kd.C_drewN ?_ _) | (with_reducible refine Kd.C_drew ?_) | exact HR169.out)) hb)
                                have n11_ := Aside0.mk (below_step (by repeat (first | (with_reducible first | exact HB.out | apply below_alloc | apply pw_below_drewN | apply below_drew1 | refine below_set ?_ GE149.out | refine below_set ?_ GE150.out | refine below_set ?_ GE151.out) | exact HB.out)) hb)
                                clear HO136
                                clear HO139
                                clear HO143
                                clear HO147
                                clear HO155
                                clear HO159
                                clear BK149
                                clear BK150
                                clear BK151
                                clear HR164
                                clear HR169
                                clear HB
                                have HO136 := n0_
                                have HO139 := n1_
                                have HO143 := n2_
                                have HO147 := n3_
                                have HO155 := n4_
                                have HO159 := n5_
                                have BK149 := n6_
                                have BK150 := n7_
                                have BK151 := n8_
                                have HR164 := n9_
                                have HR169 := n10_
                                have HB := n11_
                                clear n0_ n1_ n2_ n3_ n4_ n5_ n6_ n7_ n8_ n9_ n10_ n11_
                                (try clear hb)
                                (try clear hb2)
                                (try clear hk)
                                (try clear hi)
                                refine hK.out _ _ ⟨(blk_cell BK149.out 0).trans rfl, (blk_cell BK149.out 1).trans rfl, (blk_cell BK150.out 0).trans rfl, (blk_cell BK150.out 1).trans rfl⟩ (fun hHeld => ?_)
                                clear hK K
                                refine norm_ (a' := ?_) ?_ ?_
                                rotate_left
                                · show Act.put _ (some 95) _ = _
                                  simp only [Act.put, List.setIfInBounds_toArray, List.set_cons_zero, List.set_cons_succ, i64_w, i32_w]
                                  rfl
                                refine pure_ (i := 34) (N := some 96) (v := ?_) (a' := ?_) #[true, true, true, true, true, true, true, true, true, true, true, true, true, true, true, true, true, true, true, true, true, true, true, true, true, true, true, true, true, true, true, true, true, true, true, false, false] rfl rfl (any_of HT_.out (by kernel_rfl)) (fun _ _ _ h => h) (Or.inl ⟨by rfl, ?_⟩) ?_ ?_
                                rotate_left
                                · intro w'
                                  go_simp
                                  with_reducible rfl
                                rotate_left
                                · simp only [Act.put, List.setIfInBounds_toArray, List.set_cons_zero, List.set_cons_succ, i64_w, i32_w]
                                  rfl
                                refine pure_ (i := 35) (N := some 97) (v := ?_) (a' := ?_) #[true, true, true, true, true, true, true, true, true, true, true, true, true, true, true, true, true, true, true, true, true, true, true, true, true, true, true, true, true, true, true, true, true, true, true, true, false] rfl rfl (any_of HT_.out (by kernel_rfl)) (fun _ _ _ h => h) (Or.inl ⟨by rfl, ?_⟩) ?_ ?_
                                rotate_left
                                · intro w'
                                  go_simp
                                  with_reducible rfl
                                rotate_left
                                · simp only [Act.put, List.setIfInBounds_toArray, List.set_cons_zero, List.set_cons_succ, i64_w, i32_w]
                                  rfl
                                refine pure_ (i := 36) (N := some 0) (v := ?_) (a' := ?_) #[true, true, true, true, true, true, true, true, true, true, true, true, true, true, true, true, true, true, true, true, true, true, true, true, true, true, true, true, true, true, true, true, true, true, true, true, true] rfl rfl (any_of HT_.out (by kernel_rfl)) (fun _ _ _ h => h) (Or.inl ⟨by rfl, ?_⟩) ?_ ?_
                                rotate_left
                                · intro w'
                                  go_simp
                                  with_reducible rfl
                                rotate_left
                                · simp only [Act.put, List.setIfInBounds_toArray, List.set_cons_zero, List.set_cons_succ, i64_w, i32_w]
                                  rfl
                                refine done_ (done_of HT_.out (by kernel_rfl)) ?_
                                try go_wp2
                                go_ret
                                exact ⟨by first | rfl | (simp [errW_none, errW_some] <;> rfl) | (simp [*, errW_none, errW_some] <;> rfl), by repeat (first | (with_reducible first | exact HB.out | apply below_alloc | apply pw_below_drewN | apply below_drew1 | refine below_set ?_ GE149.out | refine below_set ?_ GE150.out | refine below_set ?_ GE151.out) | exact HB.out)⟩
                              · rw [if_neg c33] at H
                                have c33b0 : (t180 == 0) = false := beq_eq_false_iff_ne.mpr c33
                                have c33b1 : (t180 != 0) = true := bne_iff_ne.mpr c33
                                exact absurd H (by simp)
                            · rw [if_neg c30] at H
                              have c30b0 : (t177 == t178) = false := beq_eq_false_iff_ne.mpr c30
                              have c30b1 : (t177 != t178) = true := bne_iff_ne.mpr c30
                              exact absurd H (by simp)
                          · rw [if_neg c27] at H
                            have c27b0 : (t176 == 4) = false := beq_eq_false_iff_ne.mpr c27
                            have c27b1 : (t176 != 4) = true := bne_iff_ne.mpr c27
                            exact absurd H (by simp)
                      · rw [if_neg c22] at H
                        have c22b0 : (t173 == 0) = false := beq_eq_false_iff_ne.mpr c22
                        have c22b1 : (t173 != 0) = true := bne_iff_ne.mpr c22
                        exact absurd H (by simp)
                    · rw [if_neg c20] at H
                      exact absurd H (by simp)
                  · rw [if_neg c17] at H
                    exact absurd H (by simp)
                · rw [if_neg c15] at H
                  exact absurd H (by simp)
              · rw [if_neg c14] at H
                exact absurd H (by simp)
            · rw [if_neg c12] at H
              exact absurd H (by simp)
          · replace c11 := Bool.eq_false_iff.mpr c11
            subst c11
            have H1 : (none) = some r := by rw [if_neg (show ¬ (false = true) by decide)] at H; exact H
            clear H
            have H := H1
            clear H1
            exact absurd H (by simp)
        · replace c9 := Bool.eq_false_iff.mpr c9
          subst c9
          have H1 : (none) = some r := by rw [if_neg (show ¬ (false = true) by decide)] at H; exact H
          clear H
          have H := H1
          clear H1
          exact absurd H (by simp)
      · rw [if_neg c7] at H
        exact absurd H (by simp)
    · rw [if_neg c6] at H
      exact absurd H (by simp)
  · rw [if_neg c5] at H
    exact absurd H (by simp)

end Go.Proofs.Ytcanekmlabehgaa.P03
