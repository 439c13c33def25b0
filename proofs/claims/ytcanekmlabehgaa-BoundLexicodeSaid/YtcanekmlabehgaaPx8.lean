-- PRINTED by print.py (a twelfth state) out of the translation. Not trusted: Lean checks it.
import Derived.Test.YtcanekmlabehgaaPx0
import Derived.Test.YtcanekmlabehgaaPx3
import Derived.Test.YtcanekmlabehgaaPx5
namespace Go.Proofs.Ytcanekmlabehgaa.P
open Go.RowKit Go.Proofs.YtcanekmlabehgaaW.PrintWords Go.Proofs.YtcanekmlabehgaaW.PrintLast Go.Proofs.YtcanekmlabehgaaW.PrintMore
attribute [local go_sem] max2_int min2_int max_two min_two max_three min_three max_four min_four   -- for this text's walks alone
set_option linter.unusedVariables false
set_option linter.unusedSimpArgs false

/-! ### plexuslaw23_BoundLexicode: function 13 -/
mutual
def plexuslaw23_BoundLexicode.l0 : Nat → Bool → Int → List Bool → Int → List Int → Int → Option (Bool)
  | 0, _, _, _, _, _, _ => none
  | k + 1, x5, x7, x9, x10, x352000, x352001 => if x10 < (x352000.length : Int) then (if 0 ≤ x10 then (if (rd x352000 x10) < 0 then (none) else (if (rd x352000 x10) ≥ (x9.length : Int) then (none) else (if x10 > 0 then (if 0 ≤ (wrap64 (x10 - 1)) then (if (wrap64 (x10 - 1)) < (x352000.length : Int) then (if (rd x352000 (wrap64 (x10 - 1))) ≥ (rd x352000 x10) then (none) else (if 0 ≤ (rd x352000 x10) then (if (rd x352000 x10) < (x9.length : Int) then (plexuslaw23_BoundLexicode.l0 k x5 x7 (x9.set ((rd x352000 x10) : Int).toNat true) (wrap64 (x10 + 1)) x352000 x352001) else (none)) else (none))) else (none)) else (none)) else (if 0 ≤ (rd x352000 x10) then (if (rd x352000 x10) < (x9.length : Int) then (plexuslaw23_BoundLexicode.l0 k x5 x7 (x9.set ((rd x352000 x10) : Int).toNat true) (wrap64 (x10 + 1)) x352000 x352001) else (none)) else (none))))) else (none)) else (plexuslaw23_BoundLexicode.l1 k x5 x7 x9 0 x352000 x352001)
def plexuslaw23_BoundLexicode.l1 : Nat → Bool → Int → List Bool → Int → List Int → Int → Option (Bool)
  | 0, _, _, _, _, _, _ => none
  | k + 1, x5, x7, x9, x11, x352000, x352001 => if x11 < (x352000.length : Int) then (plexuslaw23_BoundLexicode.l2 k x5 x7 x9 x11 0 x352000 x352001) else (plexuslaw23_BoundLexicode.l3 k x5 x7 x9 0 x352000 x352001)
def plexuslaw23_BoundLexicode.l2 : Nat → Bool → Int → List Bool → Int → Int → List Int → Int → Option (Bool)
  | 0, _, _, _, _, _, _, _ => none
  | k + 1, x5, x7, x9, x11, x12, x352000, x352001 => if x12 < x11 then (if 0 ≤ x11 then (if x11 < (x352000.length : Int) then (if 0 ≤ x12 then (if x12 < (x352000.length : Int) then ((plexusref23_Weight.f k (Go.bits .xor .i64 (rd x352000 x11) (rd x352000 x12))).bind fun t367 => (if t367 < x7 then (none) else (if 0 ≤ (Go.bits .xor .i64 (rd x352000 x11) (rd x352000 x12)) then (if (Go.bits .xor .i64 (rd x352000 x11) (rd x352000 x12)) < (x9.length : Int) then (if (rdOf false x9 (Go.bits .xor .i64 (rd x352000 x11) (rd x352000 x12)) = true) then (plexuslaw23_BoundLexicode.l2 k x5 x7 x9 x11 (wrap64 (x12 + 1)) x352000 x352001) else (none)) else (none)) else (none)))) else (none)) else (none)) else (none)) else (none)) else (plexuslaw23_BoundLexicode.l1 k x5 x7 x9 (wrap64 (x11 + 1)) x352000 x352001)
def plexuslaw23_BoundLexicode.l3 : Nat → Bool → Int → List Bool → Int → List Int → Int → Option (Bool)
  | 0, _, _, _, _, _, _ => none
  | k + 1, x5, x7, x9, x13, x352000, x352001 => if x13 < (x9.length : Int) then (plexuslaw23_BoundLexicode.l4 k x5 x7 x9 x13 false 0 x352000 x352001) else (some x5)
def plexuslaw23_BoundLexicode.l4 : Nat → Bool → Int → List Bool → Int → Bool → Int → List Int → Int → Option (Bool)
  | 0, _, _, _, _, _, _, _, _ => none
  | k + 1, x5, x7, x9, x13, x14, x15, x352000, x352001 => if x15 < (x352000.length : Int) then (if x14 = true then (plexuslaw23_BoundLexicode.l3 k x5 x7 x9 (wrap64 (x13 + 1)) x352000 x352001) else (if 0 ≤ x15 then ((plexusref23_Weight.f k (Go.bits .xor .i64 (rd x352000 x15) x13)).bind fun t372 => (plexuslaw23_BoundLexicode.l4 k x5 x7 x9 x13 (decide (t372 < x7)) (wrap64 (x15 + 1)) x352000 x352001)) else (none))) else (if x14 = true then (plexuslaw23_BoundLexicode.l3 k x5 x7 x9 (wrap64 (x13 + 1)) x352000 x352001) else (none))
end
def plexuslaw23_BoundLexicode.f (k : Nat) (a0 : Int) (a1 : Int) : Option (Bool) := (plexuslaw23_examples.f k).bind fun t346 => (if t346 = true then (if (wrap64 (1 + (Int.tmod (wrap64 (a0)) 9))) = 0 then (none) else ((plexuslaw23_greedy.f k (wrap64 (1 + (Int.tmod (wrap64 (a0)) 9))) (wrap64 (1 + (Int.tmod (wrap64 (a1)) (wrap64 (1 + (Int.tmod (wrap64 (a0)) 9))))))).bind fun bt347 => (if bt347.2 = 0 then (if (bt347.1.length : Int) = 0 then (none) else (if 0 < (bt347.1.length : Int) then (if (rd bt347.1 0) = 0 then ((plexusref23_Power.f (wrap64 (1 + (Int.tmod (wrap64 (a0)) 9)))).bind fun t353 => (if 0 ≤ t353 then (if (t353 : Int).toNat ≤ 281474976710656 then (plexuslaw23_BoundLexicode.l0 k t346 (wrap64 (1 + (Int.tmod (wrap64 (a1)) (wrap64 (1 + (Int.tmod (wrap64 (a0)) 9)))))) (List.replicate (t353 : Int).toNat false) 0 bt347.1 bt347.2) else (none)) else (none))) else (none)) else (none))) else (none)))) else (none))
theorem plexuslaw23_BoundLexicode.mono_l : ∀ k, (∀ y0 y1 y2 y3 y4 y5, LeO (plexuslaw23_BoundLexicode.l0 k y0 y1 y2 y3 y4 y5) (plexuslaw23_BoundLexicode.l0 (k + 1) y0 y1 y2 y3 y4 y5)) ∧ (∀ y0 y1 y2 y3 y4 y5, LeO (plexuslaw23_BoundLexicode.l1 k y0 y1 y2 y3 y4 y5) (plexuslaw23_BoundLexicode.l1 (k + 1) y0 y1 y2 y3 y4 y5)) ∧ (∀ y0 y1 y2 y3 y4 y5 y6, LeO (plexuslaw23_BoundLexicode.l2 k y0 y1 y2 y3 y4 y5 y6) (plexuslaw23_BoundLexicode.l2 (k + 1) y0 y1 y2 y3 y4 y5 y6)) ∧ (∀ y0 y1 y2 y3 y4 y5, LeO (plexuslaw23_BoundLexicode.l3 k y0 y1 y2 y3 y4 y5) (plexuslaw23_BoundLexicode.l3 (k + 1) y0 y1 y2 y3 y4 y5)) ∧ (∀ y0 y1 y2 y3 y4 y5 y6 y7, LeO (plexuslaw23_BoundLexicode.l4 k y0 y1 y2 y3 y4 y5 y6 y7) (plexuslaw23_BoundLexicode.l4 (k + 1) y0 y1 y2 y3 y4 y5 y6 y7))
  | 0 => ⟨fun _ _ _ _ _ _ r h => by simp [plexuslaw23_BoundLexicode.l0] at h, fun _ _ _ _ _ _ r h => by simp [plexuslaw23_BoundLexicode.l1] at h, fun _ _ _ _ _ _ _ r h => by simp [plexuslaw23_BoundLexicode.l2] at h, fun _ _ _ _ _ _ r h => by simp [plexuslaw23_BoundLexicode.l3] at h, fun _ _ _ _ _ _ _ _ r h => by simp [plexuslaw23_BoundLexicode.l4] at h⟩
  | k + 1 => by
    obtain ⟨ih0, ih1, ih2, ih3, ih4⟩ := plexuslaw23_BoundLexicode.mono_l k
    refine ⟨?_, ?_, ?_, ?_, ?_⟩
    · intro y0 y1 y2 y3 y4 y5
      unfold plexuslaw23_BoundLexicode.l0
      repeat' first
      | (with_reducible exact ih0 _ _ _ _ _ _)
      | (with_reducible exact ih1 _ _ _ _ _ _)
      | (with_reducible exact ih2 _ _ _ _ _ _ _)
      | (with_reducible exact ih3 _ _ _ _ _ _)
      | (with_reducible exact ih4 _ _ _ _ _ _ _ _)
      | (with_reducible exact plexuslaw23_examples.mono _)
      | (with_reducible exact plexuslaw23_greedy.mono _ _ _)
      | (with_reducible exact plexusref23_Weight.mono _ _)
      | (with_reducible exact LeO.refl _)
      | (with_reducible exact LeO.none _)
      | (with_reducible refine LeO.ite ?_ ?_)
      | (with_reducible refine LeO.bind ?_ (fun _ => ?_))
      | exact ih0 _ _ _ _ _ _
      | exact ih1 _ _ _ _ _ _
      | exact ih2 _ _ _ _ _ _ _
      | exact ih3 _ _ _ _ _ _
      | exact ih4 _ _ _ _ _ _ _ _
      | exact plexuslaw23_examples.mono _
      | exact plexuslaw23_greedy.mono _ _ _
      | exact plexusref23_Weight.mono _ _
      | exact LeO.none _
      | refine LeO.ite ?_ ?_
      | refine LeO.bind ?_ (fun _ => ?_)
    · intro y0 y1 y2 y3 y4 y5
      unfold plexuslaw23_BoundLexicode.l1
      repeat' first
      | (with_reducible exact ih0 _ _ _ _ _ _)
      | (with_reducible exact ih1 _ _ _ _ _ _)
      | (with_reducible exact ih2 _ _ _ _ _ _ _)
      | (with_reducible exact ih3 _ _ _ _ _ _)
      | (with_reducible exact ih4 _ _ _ _ _ _ _ _)
      | (with_reducible exact plexuslaw23_examples.mono _)
      | (with_reducible exact plexuslaw23_greedy.mono _ _ _)
      | (with_reducible exact plexusref23_Weight.mono _ _)
      | (with_reducible exact LeO.refl _)
      | (with_reducible exact LeO.none _)
      | (with_reducible refine LeO.ite ?_ ?_)
      | (with_reducible refine LeO.bind ?_ (fun _ => ?_))
      | exact ih0 _ _ _ _ _ _
      | exact ih1 _ _ _ _ _ _
      | exact ih2 _ _ _ _ _ _ _
      | exact ih3 _ _ _ _ _ _
      | exact ih4 _ _ _ _ _ _ _ _
      | exact plexuslaw23_examples.mono _
      | exact plexuslaw23_greedy.mono _ _ _
      | exact plexusref23_Weight.mono _ _
      | exact LeO.none _
      | refine LeO.ite ?_ ?_
      | refine LeO.bind ?_ (fun _ => ?_)
    · intro y0 y1 y2 y3 y4 y5 y6
      unfold plexuslaw23_BoundLexicode.l2
      repeat' first
      | (with_reducible exact ih0 _ _ _ _ _ _)
      | (with_reducible exact ih1 _ _ _ _ _ _)
      | (with_reducible exact ih2 _ _ _ _ _ _ _)
      | (with_reducible exact ih3 _ _ _ _ _ _)
      | (with_reducible exact ih4 _ _ _ _ _ _ _ _)
      | (with_reducible exact plexuslaw23_examples.mono _)
      | (with_reducible exact plexuslaw23_greedy.mono _ _ _)
      | (with_reducible exact plexusref23_Weight.mono _ _)
      | (with_reducible exact LeO.refl _)
      | (with_reducible exact LeO.none _)
      | (with_reducible refine LeO.ite ?_ ?_)
      | (with_reducible refine LeO.bind ?_ (fun _ => ?_))
      | exact ih0 _ _ _ _ _ _
      | exact ih1 _ _ _ _ _ _
      | exact ih2 _ _ _ _ _ _ _
      | exact ih3 _ _ _ _ _ _
      | exact ih4 _ _ _ _ _ _ _ _
      | exact plexuslaw23_examples.mono _
      | exact plexuslaw23_greedy.mono _ _ _
      | exact plexusref23_Weight.mono _ _
      | exact LeO.none _
      | refine LeO.ite ?_ ?_
      | refine LeO.bind ?_ (fun _ => ?_)
    · intro y0 y1 y2 y3 y4 y5
      unfold plexuslaw23_BoundLexicode.l3
      repeat' first
      | (with_reducible exact ih0 _ _ _ _ _ _)
      | (with_reducible exact ih1 _ _ _ _ _ _)
      | (with_reducible exact ih2 _ _ _ _ _ _ _)
      | (with_reducible exact ih3 _ _ _ _ _ _)
      | (with_reducible exact ih4 _ _ _ _ _ _ _ _)
      | (with_reducible exact plexuslaw23_examples.mono _)
      | (with_reducible exact plexuslaw23_greedy.mono _ _ _)
      | (with_reducible exact plexusref23_Weight.mono _ _)
      | (with_reducible exact LeO.refl _)
      | (with_reducible exact LeO.none _)
      | (with_reducible refine LeO.ite ?_ ?_)
      | (with_reducible refine LeO.bind ?_ (fun _ => ?_))
      | exact ih0 _ _ _ _ _ _
      | exact ih1 _ _ _ _ _ _
      | exact ih2 _ _ _ _ _ _ _
      | exact ih3 _ _ _ _ _ _
      | exact ih4 _ _ _ _ _ _ _ _
      | exact plexuslaw23_examples.mono _
      | exact plexuslaw23_greedy.mono _ _ _
      | exact plexusref23_Weight.mono _ _
      | exact LeO.none _
      | refine LeO.ite ?_ ?_
      | refine LeO.bind ?_ (fun _ => ?_)
    · intro y0 y1 y2 y3 y4 y5 y6 y7
      unfold plexuslaw23_BoundLexicode.l4
      repeat' first
      | (with_reducible exact ih0 _ _ _ _ _ _)
      | (with_reducible exact ih1 _ _ _ _ _ _)
      | (with_reducible exact ih2 _ _ _ _ _ _ _)
      | (with_reducible exact ih3 _ _ _ _ _ _)
      | (with_reducible exact ih4 _ _ _ _ _ _ _ _)
      | (with_reducible exact plexuslaw23_examples.mono _)
      | (with_reducible exact plexuslaw23_greedy.mono _ _ _)
      | (with_reducible exact plexusref23_Weight.mono _ _)
      | (with_reducible exact LeO.refl _)
      | (with_reducible exact LeO.none _)
      | (with_reducible refine LeO.ite ?_ ?_)
      | (with_reducible refine LeO.bind ?_ (fun _ => ?_))
      | exact ih0 _ _ _ _ _ _
      | exact ih1 _ _ _ _ _ _
      | exact ih2 _ _ _ _ _ _ _
      | exact ih3 _ _ _ _ _ _
      | exact ih4 _ _ _ _ _ _ _ _
      | exact plexuslaw23_examples.mono _
      | exact plexuslaw23_greedy.mono _ _ _
      | exact plexusref23_Weight.mono _ _
      | exact LeO.none _
      | refine LeO.ite ?_ ?_
      | refine LeO.bind ?_ (fun _ => ?_)
theorem plexuslaw23_BoundLexicode.mono : ∀ a0 a1 k, LeO (plexuslaw23_BoundLexicode.f k a0 a1) (plexuslaw23_BoundLexicode.f (k + 1) a0 a1) := by
  intro a0 a1 k
  obtain ⟨ih0, ih1, ih2, ih3, ih4⟩ := plexuslaw23_BoundLexicode.mono_l k
  unfold plexuslaw23_BoundLexicode.f
  repeat' first
      | (with_reducible exact ih0 _ _ _ _ _ _)
      | (with_reducible exact ih1 _ _ _ _ _ _)
      | (with_reducible exact ih2 _ _ _ _ _ _ _)
      | (with_reducible exact ih3 _ _ _ _ _ _)
      | (with_reducible exact ih4 _ _ _ _ _ _ _ _)
      | (with_reducible exact plexuslaw23_examples.mono _)
      | (with_reducible exact plexuslaw23_greedy.mono _ _ _)
      | (with_reducible exact plexusref23_Weight.mono _ _)
      | (with_reducible exact LeO.refl _)
      | (with_reducible exact LeO.none _)
      | (with_reducible refine LeO.ite ?_ ?_)
      | (with_reducible refine LeO.bind ?_ (fun _ => ?_))
      | exact ih0 _ _ _ _ _ _
      | exact ih1 _ _ _ _ _ _
      | exact ih2 _ _ _ _ _ _ _
      | exact ih3 _ _ _ _ _ _
      | exact ih4 _ _ _ _ _ _ _ _
      | exact plexuslaw23_examples.mono _
      | exact plexuslaw23_greedy.mono _ _ _
      | exact plexusref23_Weight.mono _ _
      | exact LeO.none _
      | refine LeO.ite ?_ ?_
      | refine LeO.bind ?_ (fun _ => ?_)
def plexuslaw23_BoundLexicode.T13 : Bool × List (List Nat × List Nat) := (true, [([], []), ([0], [0]), ([], []), ([1, 2], [1, 2]), ([3], [3]), ([4], [4]), ([5], [5]), ([6], [6]), ([7, 6], [6, 7]), ([6], [6]), ([8, 9, 6], [6, 8, 9]), ([10, 6], [6, 10]), ([6], [6]), ([12, 6], [6, 12]), ([11, 13, 6], [6, 11, 13]), ([6, 14], [6, 14]), ([15, 6], [15]), ([16], [16]), ([17, 16], [16, 17]), ([18, 16, 16], [16, 18]), ([19], [19]), ([20, 19], [19, 20]), ([19], [19]), ([22, 19], [19, 22]), ([21, 23, 19], [19, 21, 23]), ([24, 19], [19, 24]), ([19], [19]), ([26, 19], [19, 26]), ([19], [19]), ([27, 28, 19], [19, 27, 28]), ([29, 19], [19, 29]), ([25, 30, 19], [19, 25, 30]), ([19, 31, 16], [16, 19, 31]), ([16, 32], [16, 32])])
def plexuslaw23_BoundLexicode.B13 : List Nat := [0, 1, 0, 7, 15, 31, 63, 127, 255, 127, 1023, 2047, 127, 4223, 16383, 32767, 65535, 131071, 262143, 524287, 1048575, 2097151, 1048575, 5242879, 16777215, 33554431, 1048575, 68157439, 1048575, 470810623, 1007681535, 2147483647, 4294967295, 8589934591]
theorem plexuslaw23_BoundLexicode.tab13 : rtab .any (opsOf Try.f13 13) = plexuslaw23_BoundLexicode.T13 := by kernel_rfl
theorem plexuslaw23_BoundLexicode.bits13 : waitsOk plexuslaw23_BoundLexicode.T13.2 plexuslaw23_BoundLexicode.B13 = true := by kernel_rfl
def plexuslaw23_BoundLexicode.T22 : Bool × List (List Nat × List Nat) := (true, [([], []), ([0], [0]), ([], []), ([1, 2], [1, 2]), ([3], [3]), ([], []), ([5], [5]), ([], []), ([6, 7], [6, 7]), ([8], [8]), ([4, 9], [4, 9]), ([10], [10]), ([], []), ([11, 12], [11, 12]), ([13, 11], [13]), ([14], [14]), ([14], [14]), ([16, 14], [14, 16]), ([14], [14]), ([17, 18, 14], [14, 17, 18]), ([19, 14], [14, 19]), ([14], [14]), ([21, 14], [14, 21]), ([14], [14]), ([22, 23, 14], [14, 22, 23]), ([24, 14], [14, 24]), ([20, 25, 14], [14, 20, 25]), ([15, 26, 14], [14, 15, 26]), ([27, 14], [14, 27]), ([28, 14], [14, 28]), ([14, 29], [14, 29])])
def plexuslaw23_BoundLexicode.B22 : List Nat := [0, 1, 0, 7, 15, 0, 32, 0, 224, 480, 1023, 2047, 0, 8191, 16383, 32767, 32767, 98303, 32767, 491519, 1015807, 32767, 2129919, 32767, 14712831, 31490047, 67076095, 134217727, 268435455, 536870911, 1073741823]
theorem plexuslaw23_BoundLexicode.tab22 : rtab .any (opsOf Try.f13 22) = plexuslaw23_BoundLexicode.T22 := by kernel_rfl
theorem plexuslaw23_BoundLexicode.bits22 : waitsOk plexuslaw23_BoundLexicode.T22.2 plexuslaw23_BoundLexicode.B22 = true := by kernel_rfl
set_option maxHeartbeats 8000000 in
set_option maxRecDepth 100000 in
theorem plexuslaw23_BoundLexicode.calls (k : Nat) (a0 : Int) (a1 : Int) (r : Bool) (w : World) (h : plexuslaw23_BoundLexicode.f k a0 a1 = some r) :
    Calls Try.prog 13 #[.int .u8 a0, .int .u8 a1] w fun e w' => e = .returned (.bool r) ∧ Below w.heap.size w w' := by
  have hu55 := Try.underlying55
  have HB := Aside0.mk (Below.refl w.heap.size w)
  have H : ((plexuslaw23_examples.f k).bind fun t346 => (if t346 = true then (if (wrap64 (1 + (Int.tmod (wrap64 (a0)) 9))) = 0 then (none) else ((plexuslaw23_greedy.f k (wrap64 (1 + (Int.tmod (wrap64 (a0)) 9))) (wrap64 (1 + (Int.tmod (wrap64 (a1)) (wrap64 (1 + (Int.tmod (wrap64 (a0)) 9))))))).bind fun bt347 => (if bt347.2 = 0 then (if (bt347.1.length : Int) = 0 then (none) else (if 0 < (bt347.1.length : Int) then (if (rd bt347.1 0) = 0 then ((plexusref23_Power.f (wrap64 (1 + (Int.tmod (wrap64 (a0)) 9)))).bind fun t353 => (if 0 ≤ t353 then (if (t353 : Int).toNat ≤ 281474976710656 then (plexuslaw23_BoundLexicode.l0 k t346 (wrap64 (1 + (Int.tmod (wrap64 (a1)) (wrap64 (1 + (Int.tmod (wrap64 (a0)) 9)))))) (List.replicate (t353 : Int).toNat false) 0 bt347.1 bt347.2) else (none)) else (none))) else (none)) else (none))) else (none)))) else (none))) = some r := h
  clear h
  replace H := Option.bind_eq_some_iff.mp H
  obtain ⟨t346, A30, H⟩ := H
  replace H : (if t346 = true then (if (wrap64 (1 + (Int.tmod (wrap64 (a0)) 9))) = 0 then (none) else ((plexuslaw23_greedy.f k (wrap64 (1 + (Int.tmod (wrap64 (a0)) 9))) (wrap64 (1 + (Int.tmod (wrap64 (a1)) (wrap64 (1 + (Int.tmod (wrap64 (a0)) 9))))))).bind fun bt347 => (if bt347.2 = 0 then (if (bt347.1.length : Int) = 0 then (none) else (if 0 < (bt347.1.length : Int) then (if (rd bt347.1 0) = 0 then ((plexusref23_Power.f (wrap64 (1 + (Int.tmod (wrap64 (a0)) 9)))).bind fun t353 => (if 0 ≤ t353 then (if (t353 : Int).toNat ≤ 281474976710656 then (plexuslaw23_BoundLexicode.l0 k t346 (wrap64 (1 + (Int.tmod (wrap64 (a1)) (wrap64 (1 + (Int.tmod (wrap64 (a0)) 9)))))) (List.replicate (t353 : Int).toNat false) 0 bt347.1 bt347.2) else (none)) else (none))) else (none)) else (none))) else (none)))) else (none)) = some r := H
  have A3 := Aside0.mk A30
  clear A30
  by_cases c4 : t346 = true
  · subst c4
    have H1 : (if (wrap64 (1 + (Int.tmod (wrap64 (a0)) 9))) = 0 then (none) else ((plexuslaw23_greedy.f k (wrap64 (1 + (Int.tmod (wrap64 (a0)) 9))) (wrap64 (1 + (Int.tmod (wrap64 (a1)) (wrap64 (1 + (Int.tmod (wrap64 (a0)) 9))))))).bind fun bt347 => (if bt347.2 = 0 then (if (bt347.1.length : Int) = 0 then (none) else (if 0 < (bt347.1.length : Int) then (if (rd bt347.1 0) = 0 then ((plexusref23_Power.f (wrap64 (1 + (Int.tmod (wrap64 (a0)) 9)))).bind fun t353 => (if 0 ≤ t353 then (if (t353 : Int).toNat ≤ 281474976710656 then (plexuslaw23_BoundLexicode.l0 k true (wrap64 (1 + (Int.tmod (wrap64 (a1)) (wrap64 (1 + (Int.tmod (wrap64 (a0)) 9)))))) (List.replicate (t353 : Int).toNat false) 0 bt347.1 bt347.2) else (none)) else (none))) else (none)) else (none))) else (none)))) = some r := by rw [if_pos rfl] at H; exact H
    clear H
    have H := H1
    clear H1
    by_cases c5 : (wrap64 (1 + (Int.tmod (wrap64 (a0)) 9))) = 0
    · rw [if_pos c5] at H
      exact absurd H (by simp)
    · rw [if_neg c5] at H
      have c5b0 : ((wrap64 (1 + (Int.tmod (wrap64 (a0)) 9))) == 0) = false := beq_eq_false_iff_ne.mpr c5
      have c5b1 : ((wrap64 (1 + (Int.tmod (wrap64 (a0)) 9))) != 0) = true := bne_iff_ne.mpr c5
      replace H := Option.bind_eq_some_iff.mp H
      obtain ⟨⟨t347, t350⟩, A60, H⟩ := H
      replace H : (if t350 = 0 then (if (t347.length : Int) = 0 then (none) else (if 0 < (t347.length : Int) then (if (rd t347 0) = 0 then ((plexusref23_Power.f (wrap64 (1 + (Int.tmod (wrap64 (a0)) 9)))).bind fun t353 => (if 0 ≤ t353 then (if (t353 : Int).toNat ≤ 281474976710656 then (plexuslaw23_BoundLexicode.l0 k true (wrap64 (1 + (Int.tmod (wrap64 (a1)) (wrap64 (1 + (Int.tmod (wrap64 (a0)) 9)))))) (List.replicate (t353 : Int).toNat false) 0 t347 t350) else (none)) else (none))) else (none)) else (none))) else (none)) = some r := H
      have A6 := Aside0.mk A60
      clear A60
      by_cases c7 : t350 = 0
      · rw [if_pos c7] at H
        have c7b0 : (t350 == 0) = true := beq_iff_eq.mpr c7
        have c7b1 : (t350 != 0) = false := bne_eq_false_iff_eq.mpr c7
        clear c7
        by_cases c8 : (t347.length : Int) = 0
        · rw [if_pos c8] at H
          exact absurd H (by simp)
        · rw [if_neg c8] at H
          have c8b0 : ((t347.length : Int) == 0) = false := beq_eq_false_iff_ne.mpr c8
          have c8b1 : ((t347.length : Int) != 0) = true := bne_iff_ne.mpr c8
          have c8b2 : ¬ (t347 = []) := fun h_ => c8 (by rw [h_]; rfl)
          by_cases c9 : 0 < (t347.length : Int)
          · rw [if_pos c9] at H
            have c9b0 : decide (0 < (t347.length : Int)) = true := decide_eq_true c9
            have c9b1 : decide (0 < t347.length) = true := decide_eq_true (by omega)
            clear c9
            by_cases c10 : (rd t347 0) = 0
            · rw [if_pos c10] at H
              have c10b0 : ((rd t347 0) == 0) = true := beq_iff_eq.mpr c10
              have c10b1 : ((rd t347 0) != 0) = false := bne_eq_false_iff_eq.mpr c10
              clear c10
              replace H := Option.bind_eq_some_iff.mp H
              obtain ⟨t353, A110, H⟩ := H
              replace H : (if 0 ≤ t353 then (if (t353 : Int).toNat ≤ 281474976710656 then (plexuslaw23_BoundLexicode.l0 k true (wrap64 (1 + (Int.tmod (wrap64 (a1)) (wrap64 (1 + (Int.tmod (wrap64 (a0)) 9)))))) (List.replicate (t353 : Int).toNat false) 0 t347 t350) else (none)) else (none)) = some r := H
              have A11 := Aside0.mk A110
              clear A110
              by_cases c12 : 0 ≤ t353
              · rw [if_pos c12] at H
                have c12b0 := eq_true c12
                have c12b1 : decide (0 ≤ t353) = true := decide_eq_true c12
                clear c12
                by_cases c13 : (t353 : Int).toNat ≤ 281474976710656
                · rw [if_pos c13] at H
                  have c13b0 := eq_true c13
                  have c13b1 : decide ((t353 : Int).toNat ≤ 281474976710656) = true := decide_eq_true c13
                  clear c13
                  obtain ⟨y354, hy354⟩ : ∃ y_ : List Bool, y_ = (List.replicate (t353 : Int).toNat false) := ⟨_, rfl⟩
                  replace H : (plexuslaw23_BoundLexicode.l0 k true (wrap64 (1 + (Int.tmod (wrap64 (a1)) (wrap64 (1 + (Int.tmod (wrap64 (a0)) 9)))))) y354 0 t347 t350) = some r := by first | (rw [hy354]; with_reducible exact H) | (have H2_ := (Option.bind_some _ _).symm.trans H; rw [hy354]; with_reducible exact H2_) | (have H2_ := (Option.bind_some _ _).symm.trans H; with_reducible exact H2_) | with_reducible exact H | (rw [hy354]; exact H) | exact H
                  have Ny354 := Aside0.mk hy354
                  clear hy354
                  have H' := Aside0.mk H
                  clear H
                  go_enter Try.func13, Try.ntmps13
                  go_wp2_with (first | ((with_reducible refine gate_callee (f := 35) rfl ?_); refine goesL_ (some 16) rfl rfl Try.func35 (by kernel_rfl) rfl #[] rfl (by (try simp only [List.map_toArray, List.map_cons, List.map_nil]); first | done | rfl | (simp only [List.length_drop, List.length_take]; rfl)) ?_; (with_reducible refine (plexuslaw23_examples.calls k  true _ A3.out).mono ?_); rintro e w14 ⟨rfl, hb⟩; refine ⟨_, rfl, ?_⟩; have n0_ := Aside0.mk (below_step (by repeat (first | (with_reducible first | exact HB.out | apply below_alloc | apply pw_below_drewN | apply below_drew1) | exact HB.out)) hb); clear HB; have HB := n0_; clear n0_; (try clear hb); (try clear hb2); (try clear hk); (try clear hi)) | ((with_reducible refine gate_callee (f := 46) rfl ?_); refine goesL_ (some 30) rfl rfl Try.func46 (by kernel_rfl) rfl #[.int .i64 (wrap64 (1 + (Int.tmod (wrap64 (a0)) 9))), .int .i64 (wrap64 (1 + (Int.tmod (wrap64 (a1)) (wrap64 (1 + (Int.tmod (wrap64 (a0)) 9))))))] rfl (by (try simp only [List.map_toArray, List.map_cons, List.map_nil]); first | done | rfl | (simp only [List.length_drop, List.length_take]; rfl)) ?_; (with_reducible refine (plexuslaw23_greedy.calls k (wrap64 (1 + (Int.tmod (wrap64 (a0)) 9))) (wrap64 (1 + (Int.tmod (wrap64 (a1)) (wrap64 (1 + (Int.tmod (wrap64 (a0)) 9)))))) t347 t350 _ A6.out).mono ?_); rintro e w15 ⟨v348, rfl, ho0, hb⟩; refine ⟨_, rfl, ?_⟩; have n0_ := Aside0.mk (Kd.R_lower ho0 (below_size (by repeat (first | (with_reducible first | exact HB.out | apply below_alloc | apply pw_below_drewN | apply below_drew1) | exact HB.out)))); have n1_ := Aside0.mk (below_step (by repeat (first | (with_reducible first | exact HB.out | apply below_alloc | apply pw_below_drewN | apply below_drew1) | exact HB.out)) hb); clear HB; have HO349 := n0_; have HB := n1_; clear n0_ n1_; (try clear hb); (try clear hb2); (try clear hk); (try clear hi); (try clear ho0)) | ((with_reducible refine gate_dst (N := 8) rfl ?_); (try (refine gate_guard (by rfl) ?_; dsimp only)); refine box_event ?hg (N := 8) ?hd (cs := #[.slice none 0 0, .int .i64 0]) (t := 55) ?hr ?_; (case hd => rfl); (case hg => rfl); (case hr => first | (go_simp; done) | (go_simp; rfl)); intro gb351 hg w16 hbox hb; have n0_ := Aside0.mk (Kd.R_below (by (with_reducible repeat (first | apply Kd.R_alloc | apply Kd.R_drewN | apply Kd.R_drew)); exact HO349.out) hb); have n1_ := Aside0.mk (below_step (by repeat (first | (with_reducible first | exact HB.out | apply below_alloc | apply pw_below_drewN | apply below_drew1) | exact HB.out)) hb); have n2_ := Aside0.mk (hbox); have n3_ := Aside0.mk ((by rw [hg]; exact (below_size (by repeat (first | (with_reducible first | exact HB.out | apply below_alloc | apply pw_below_drewN | apply below_drew1) | exact HB.out))) : w.heap.size ≤ gb351)); have n4_ := Aside0.mk ((by rw [hg]; exact (below_size (by repeat (first | (with_reducible first | exact HB.out | apply below_alloc | apply pw_below_drewN | apply below_drew1) | exact HB.out))) : w.heap.size ≤ gb351)); clear HO349; clear HB; have HO349 := n0_; have HB := n1_; have BK351 := n2_; have GW351 := n3_; have GE351 := n4_; clear n0_ n1_ n2_ n3_ n4_; clear hb hbox hg; obtain ⟨Ao17, co17, eo17⟩ := Kd.R_slice HO349.out; subst eo17; have hcz18_0 : w16.cell? ⟨gb351, 0, none⟩ = some (.slice none 0 0) := (blk_cell BK351.out 0).trans rfl; have hcz18_1 : w16.cell? ⟨gb351, 1, none⟩ = some (.int .i64 0) := (blk_cell BK351.out 1).trans rfl; have hfz18_0 := blk_frozen BK351.out 0; have hfz18_1 := blk_frozen BK351.out 1; have p352 : 0 ≤ (0 : Int) := (by omega); have q352 : 0 < (t347.length : Int) := of_decide_eq_true (by first | (with_reducible assumption) | assumption); obtain ⟨ad352, e352, hx352_0⟩ := Kd.at_int (Kd.R_reads' HO349.out).2.2 0 p352 q352; cases e352; have qi352 : (0 < t347.length) = True := eq_true (by omega); (try rw [show ((0 : Int)).toNat = 0 from rfl] at hx352_0); (try rw [Addr.add_zero'] at hx352_0); have hn352_0 : ad352.block ≠ gb351 := Kd.own_blk (Kd.R_ne HO349.out BK351.out (by decide)); have hn352_1 : ad352.block ≠ gb351 := Kd.own_blk (Kd.R_ne HO349.out BK351.out (by decide)); replace hx352_0 := (cell_far (p := ⟨gb351, 0, none⟩) (by first | (rw [add_block]; exact hn352_0) | (show (Addr.add _ _).block ≠ _; rw [add_block]; exact hn352_0) | exact hn352_0) (.slice (some ad352) t347.length co17)).trans hx352_0; replace hx352_0 := (cell_far (p := ⟨gb351, 1, none⟩) (by first | (rw [add_block]; exact hn352_1) | (show (Addr.add _ _).block ≠ _; rw [add_block]; exact hn352_1) | exact hn352_1) (.int .i64 t350)).trans hx352_0; clear hn352_0; clear hn352_1; replace p352 := eq_true p352; replace q352 := eq_true q352) | ((with_reducible refine gate_callee (f := 51) rfl ?_); refine goesL_ (some 48) rfl rfl Try.func51 (by kernel_rfl) rfl #[.int .i64 (wrap64 (1 + (Int.tmod (wrap64 (a0)) 9)))] rfl (by (try simp only [List.map_toArray, List.map_cons, List.map_nil]); first | done | rfl | (simp only [List.length_drop, List.length_take]; rfl)) ?_; (with_reducible refine (plexusref23_Power.calls (wrap64 (1 + (Int.tmod (wrap64 (a0)) 9))) t353 _ A11.out).mono ?_); rintro e w' ⟨rfl, ⟨nd, rfl⟩⟩; refine ⟨_, rfl, ?_⟩) | ((with_reducible refine gate_dst (N := 49) rfl ?_); (try (refine gate_guard (by rfl) ?_; dsimp only)); refine Kd.R_make Kd.bool _ 4 rfl (N := 49) rfl 67 _ _ rfl t353 rfl rfl Try.underlying67 (.bool false) 1 info4 rfl (by decide) (by omega) false (ok := fun _ => True) (okp := fun _ => True) rfl (fun _ hk => hk) trivial (of_decide_eq_true (by first | (with_reducible assumption) | assumption)) (Nat.le_trans (Nat.mul_le_mul_right _ (of_decide_eq_true (by first | (with_reducible assumption) | assumption) : t353.toNat ≤ 281474976710656)) (by omega)) (Below.refl _ _) (Nat.le_refl _) ?_; intro v355 w19 ho20 hb hg_ hnew_; clear hg_ hnew_; (first | rw [← Ny354.out] at ho20 | (simp only [Int.reduceToNat] at ho20; rw [← Ny354.out] at ho20)); have n0_ := Aside0.mk (Kd.R_below (by (with_reducible repeat (first | apply Kd.R_alloc | apply Kd.R_drewN | apply Kd.R_drew)); exact (Kd.R_mono (Kd.R_far (p := ⟨gb351, 1, none⟩) (Kd.R_far (p := ⟨gb351, 0, none⟩) (Kd.R_types HO349.out BK351.out (by decide)) (fun _ hk => hk.2) (.slice (some ad352) t347.length co17)) (fun _ hk => hk.2) (.int .i64 t350)) (fun _ h_ => h_.1))) hb); have n1_ := Aside0.mk (Kd.R_lower ho20 (below_size (by repeat (first | (with_reducible first | exact HB.out | apply below_alloc | apply pw_below_drewN | apply below_drew1 | refine below_set ?_ GE351.out) | exact HB.out)))); have n2_ := Aside0.mk (blk_below (g := gb351) (o := .cells #[.slice (some ad352) t347.length co17, .int .i64 t350] 55 (0, 0)) (by (with_reducible repeat (first | refine blk_drewN ?_ _ | refine blk_drew ?_ | refine blk_alloc ?_ _)); refine blk_put (cs := #[.slice (some ad352) t347.length co17, .int .i64 0]) ?_ 1 _ rfl; (with_reducible repeat (first | refine blk_drewN ?_ _ | refine blk_drew ?_ | refine blk_alloc ?_ _)); refine blk_put (cs := #[.slice none 0 0, .int .i64 0]) ?_ 0 _ rfl; (with_reducible repeat (first | refine blk_drewN ?_ _ | refine blk_drew ?_ | refine blk_alloc ?_ _)); exact BK351.out) hb); have n3_ := Aside0.mk (below_step (by repeat (first | (with_reducible first | exact HB.out | apply below_alloc | apply pw_below_drewN | apply below_drew1 | refine below_set ?_ GE351.out) | exact HB.out)) hb); clear HO349; clear BK351; clear HB; have HO349 := n0_; have HO356 := n1_; have BK351 := n2_; have HB := n3_; clear n0_ n1_ n2_ n3_; clear hb ho20))
                  go_loopg [10] k (fun kq v10 w' => ∃ (x9_1 : List Bool) (x10_1 : Int), v10 = .int .i64 x10_1 ∧ Aside0 (plexuslaw23_BoundLexicode.l0 kq true (wrap64 (1 + (Int.tmod (wrap64 (a1)) (wrap64 (1 + (Int.tmod (wrap64 (a0)) 9)))))) x9_1 x10_1 t347 t350 = some r) ∧ Aside0 (kq ≤ k) ∧ Aside0 (Kd.R Kd.bool 4 w' w.heap.size (fun _ => True) v355 x9_1) ∧ Aside0 (Kd.R (Kd.int .i64) 3 w' w.heap.size (fun _ => True) (.slice (some ad352) t347.length co17) t347) ∧ Aside0 (w'.heap[gb351]? = some (.cells #[(.slice (some ad352) t347.length co17), .int .i64 t350] 55 (0, 0))) ∧ Aside0 (Below w.heap.size w w'))
                  case atStart => exact ⟨(y354), (0), (by first | rfl | (simp; done) | (simp [*]; done)), H', ⟨Nat.le_refl _⟩, ⟨by (with_reducible repeat (first | apply Kd.R_alloc | apply Kd.R_drewN | apply Kd.R_drew)); exact HO356.out⟩, ⟨by (with_reducible repeat (first | apply Kd.R_alloc | apply Kd.R_drewN | apply Kd.R_drew)); exact HO349.out⟩, ⟨by (with_reducible repeat (first | refine blk_drewN ?_ _ | refine blk_drew ?_ | refine blk_alloc ?_ _)); exact BK351.out⟩, ⟨by repeat (first | (with_reducible first | exact HB.out | apply below_alloc | apply pw_below_drewN | apply below_drew1 | refine below_set ?_ GE351.out) | exact HB.out)⟩⟩
                  case round =>
                    clear H'
                    try clear c1
                    try clear p2
                    try clear c3
                    try clear p3
                    try clear q3
                    try clear hx3
                    try clear qi3
                    try clear c4
                    try clear c5
                    try clear c5b0
                    try clear c5b1
                    try clear p6
                    try clear c7
                    try clear c7b0
                    try clear c7b1
                    try clear c8
                    try clear c8b0
                    try clear c8b1
                    try clear c8b2
                    try clear c9
                    try clear c9b0
                    try clear c9b1
                    try clear c10
                    try clear c10b0
                    try clear c10b1
                    try clear c12
                    try clear c12b0
                    try clear c12b1
                    try clear c13
                    try clear c13b0
                    try clear c13b1
                    try clear hcz18_0
                    try clear hcz18_1
                    try clear hfz18_0
                    try clear hfz18_1
                    try clear hx352_0
                    try clear p352
                    try clear q352
                    obtain ⟨x9_1, x10_1, rfl, HA, HK1, HO_9, HO_352000, BK351, HB⟩ := hrel
                    cases gk with
                    | zero => exact absurd HA.out (by simp [plexuslaw23_BoundLexicode.l0])
                    | succ k1 =>
                      have H := HA.out
                      clear HA
                      simp only [plexuslaw23_BoundLexicode.l0] at H
                      by_cases c21 : x10_1 < (t347.length : Int)
                      · rw [if_pos c21] at H
                        have c21b0 : decide (x10_1 < (t347.length : Int)) = true := decide_eq_true c21
                        clear c21
                        by_cases c22 : 0 ≤ x10_1
                        · rw [if_pos c22] at H
                          have c22b0 : decide (0 ≤ x10_1) = true := decide_eq_true c22
                          clear c22
                          by_cases c23 : (rd t347 x10_1) < 0
                          · rw [if_pos c23] at H
                            have c23b0 : decide ((rd t347 x10_1) < 0) = true := decide_eq_true c23
                            clear c23
                            exact absurd H (by simp)
                          · rw [if_neg c23] at H
                            have c23b0 : decide ((rd t347 x10_1) < 0) = false := decide_eq_false c23
                            clear c23
                            by_cases c24 : (rd t347 x10_1) ≥ (x9_1.length : Int)
                            · rw [if_pos c24] at H
                              have c24b0 : decide ((x9_1.length : Int) ≤ (rd t347 x10_1)) = true := decide_eq_true c24
                              clear c24
                              exact absurd H (by simp)
                            · rw [if_neg c24] at H
                              have c24b0 : decide ((x9_1.length : Int) ≤ (rd t347 x10_1)) = false := decide_eq_false c24
                              clear c24
                              by_cases c25 : x10_1 > 0
                              · rw [if_pos c25] at H
                                have c25b0 : decide (0 < x10_1) = true := decide_eq_true c25
                                clear c25
                                obtain ⟨ji26, hji26⟩ : ∃ j_ : Int, (wrap64 (x10_1 - 1)) = j_ := ⟨_, rfl⟩
                                replace H : (if 0 ≤ (ji26) then (if (ji26) < (t347.length : Int) then (if (rd t347 (ji26)) ≥ (rd t347 x10_1) then (none) else (if 0 ≤ (rd t347 x10_1) then (if (rd t347 x10_1) < (x9_1.length : Int) then (plexuslaw23_BoundLexicode.l0 k1 true (wrap64 (1 + (Int.tmod (wrap64 (a1)) (wrap64 (1 + (Int.tmod (wrap64 (a0)) 9)))))) (x9_1.set ((rd t347 x10_1) : Int).toNat true) (wrap64 (x10_1 + 1)) t347 t350) else (none)) else (none))) else (none)) else (none)) = some r := by first | (rw [hji26] at H; exact H) | (simp only [hji26] at H ⊢; exact H)
                                have hji26w : (IntKind.i64.wrap (x10_1 - 1)) = ji26 := (i64_w _).trans hji26
                                by_cases c27 : 0 ≤ (ji26)
                                · rw [if_pos c27] at H
                                  have c27b0 : decide (0 ≤ (ji26)) = true := decide_eq_true c27
                                  clear c27
                                  by_cases c28 : (ji26) < (t347.length : Int)
                                  · rw [if_pos c28] at H
                                    have c28b0 : decide ((ji26) < (t347.length : Int)) = true := decide_eq_true c28
                                    clear c28
                                    by_cases c29 : (rd t347 (ji26)) ≥ (rd t347 x10_1)
                                    · rw [if_pos c29] at H
                                      exact absurd H (by simp)
                                    · rw [if_neg c29] at H
                                      have c29b0 : decide ((rd t347 x10_1) ≤ (rd t347 (ji26))) = false := decide_eq_false c29
                                      clear c29
                                      by_cases c30 : 0 ≤ (rd t347 x10_1)
                                      · rw [if_pos c30] at H
                                        have c30b0 : decide (0 ≤ (rd t347 x10_1)) = true := decide_eq_true c30
                                        clear c30
                                        by_cases c31 : (rd t347 x10_1) < (x9_1.length : Int)
                                        · rw [if_pos c31] at H
                                          have c31b0 : decide ((rd t347 x10_1) < (x9_1.length : Int)) = true := decide_eq_true c31
                                          clear c31
                                          obtain ⟨y362, hy362⟩ : ∃ y_ : List Bool, y_ = (x9_1.set ((rd t347 x10_1) : Int).toNat true) := ⟨_, rfl⟩
                                          replace H : (plexuslaw23_BoundLexicode.l0 k1 true (wrap64 (1 + (Int.tmod (wrap64 (a1)) (wrap64 (1 + (Int.tmod (wrap64 (a0)) 9)))))) y362 (wrap64 (x10_1 + 1)) t347 t350) = some r := by first | (rw [hy362]; with_reducible exact H) | (have H2_ := (Option.bind_some _ _).symm.trans H; rw [hy362]; with_reducible exact H2_) | (have H2_ := (Option.bind_some _ _).symm.trans H; with_reducible exact H2_) | with_reducible exact H | (rw [hy362]; exact H) | exact H
                                          have Ny362 := Aside0.mk hy362
                                          clear hy362
                                          have H' := Aside0.mk H
                                          clear H
                                          have hcz33_0 : wr.cell? ⟨gb351, 0, none⟩ = some (.slice (some ad352) t347.length co17) := (blk_cell BK351.out 0).trans rfl
                                          have hcz33_1 : wr.cell? ⟨gb351, 1, none⟩ = some (.int .i64 t350) := (blk_cell BK351.out 1).trans rfl
                                          have hfz33_0 := blk_frozen BK351.out 0
                                          have hfz33_1 := blk_frozen BK351.out 1
                                          try go_wp2
                                          have n0_ := Aside0.mk (Kd.R_drew HO_9.out)
                                          have n1_ := Aside0.mk (Kd.R_drew HO_352000.out)
                                          have n2_ := Aside0.mk (blk_drew BK351.out)
                                          have n3_ := Aside0.mk (below_drew1 HB.out)
                                          clear HO_9
                                          clear HO_352000
                                          clear BK351
                                          clear HB
                                          have HO_9 := n0_
                                          have HO_352000 := n1_
                                          have BK351 := n2_
                                          have HB := n3_
                                          clear n0_ n1_ n2_ n3_
                                          have p357 : 0 ≤ (x10_1 : Int) := of_decide_eq_true (by first | (with_reducible assumption) | assumption)
                                          have q357 : x10_1 < (t347.length : Int) := of_decide_eq_true (by first | (with_reducible assumption) | assumption)
                                          obtain ⟨ad357, e357, hx357_0⟩ := Kd.at_int (Kd.R_reads' HO_352000.out).2.2 x10_1 p357 q357
                                          obtain rfl : ad352 = ad357 := (by injection e357)
                                          replace p357 := eq_true p357
                                          replace q357 := eq_true q357
                                          have p358 : 0 ≤ (x10_1 : Int) := of_decide_eq_true (by first | (with_reducible assumption) | assumption)
                                          have q358 : x10_1 < (t347.length : Int) := of_decide_eq_true (by first | (with_reducible assumption) | assumption)
                                          obtain ⟨ad358, e358, hx358_0⟩ := Kd.at_int (Kd.R_reads' HO_352000.out).2.2 x10_1 p358 q358
                                          obtain rfl : ad352 = ad358 := (by injection e358)
                                          replace p358 := eq_true p358
                                          replace q358 := eq_true q358
                                          obtain ⟨Ao35, co35, eo35⟩ := Kd.R_slice HO_9.out
                                          (first | subst eo35 | (injection eo35 with f1_ f2_ f3_; have f4_ := f1_.symm; have f5_ := f3_.symm; clear f1_ f2_ f3_; subst f4_; subst f5_))
                                          have p359 : 0 ≤ ((ji26) : Int) := of_decide_eq_true (by first | (with_reducible assumption) | assumption)
                                          have q359 : (ji26) < (t347.length : Int) := of_decide_eq_true (by first | (with_reducible assumption) | assumption)
                                          obtain ⟨ad359, e359, hx359_0⟩ := Kd.at_int (Kd.R_reads' HO_352000.out).2.2 (ji26) p359 q359
                                          obtain rfl : ad352 = ad359 := (by injection e359)
                                          replace p359 := eq_true p359
                                          replace q359 := eq_true q359
                                          have p360 : 0 ≤ (x10_1 : Int) := of_decide_eq_true (by first | (with_reducible assumption) | assumption)
                                          have q360 : x10_1 < (t347.length : Int) := of_decide_eq_true (by first | (with_reducible assumption) | assumption)
                                          obtain ⟨ad360, e360, hx360_0⟩ := Kd.at_int (Kd.R_reads' HO_352000.out).2.2 x10_1 p360 q360
                                          obtain rfl : ad352 = ad360 := (by injection e360)
                                          replace p360 := eq_true p360
                                          replace q360 := eq_true q360
                                          refine start_ (n := 34) (S := fun w' => w'.cell? ⟨gb351, 0, none⟩ = some (.slice (some ad352) t347.length co17) ∧ w'.cell? ⟨gb351, 1, none⟩ = some (.int .i64 t350) ∧ w'.cell? (ad352.add (x10_1).toNat) = some (.int .i64 (rd t347 x10_1)) ∧ w'.cell? (ad352.add (x10_1).toNat) = some (.int .i64 (rd t347 x10_1)) ∧ w'.cell? (ad352.add ((ji26)).toNat) = some (.int .i64 (rd t347 (ji26))) ∧ w'.cell? (ad352.add (x10_1).toNat) = some (.int .i64 (rd t347 x10_1))) (ds := []) #[false, false, false, false, false, false, false, false, false, false, false, false, false, false, false, false, false, false, false, false, false, false, false, false, false, false, false, false, false, false, false, false, false, false] (by kernel_rfl) rfl rfl ⟨(blk_cell BK351.out 0).trans rfl, (blk_cell BK351.out 1).trans rfl, hx357_0, hx358_0, hx359_0, hx360_0⟩ (fun hHeld => ?_); refine with_tabW plexuslaw23_BoundLexicode.tab13 plexuslaw23_BoundLexicode.bits13 (fun HT_ HW_ => ?_)
                                          generalize wr.drew = w34 at HO_9 HO_352000 BK351 HB hx357_0 hx358_0 hx359_0 hx360_0 hHeld ⊢
                                          refine pure_ (i := 0) (N := some 57) (v := ?_) (a' := ?_) #[true, false, false, false, false, false, false, false, false, false, false, false, false, false, false, false, false, false, false, false, false, false, false, false, false, false, false, false, false, false, false, false, false, false] rfl rfl (any_of HT_.out (by kernel_rfl)) (fun _ _ _ h => h) (Or.inl ⟨by rfl, ?_⟩) ?_ ?_
                                          rotate_left
                                          · intro w'
                                            go_simp
                                            with_reducible rfl
                                          rotate_left
                                          · simp only [Act.put, List.setIfInBounds_toArray, List.set_cons_zero, List.set_cons_succ, i64_w, i32_w]
                                            rfl
                                          refine pure_ (i := 2) (N := some 59) (v := ?_) (a' := ?_) #[true, false, true, false, false, false, false, false, false, false, false, false, false, false, false, false, false, false, false, false, false, false, false, false, false, false, false, false, false, false, false, false, false, false] rfl rfl (any_of HT_.out (by kernel_rfl)) (fun _ _ _ h => h) (Or.inl ⟨by rfl, ?_⟩) ?_ ?_
                                          rotate_left
                                          · intro w'
                                            go_simp
                                            with_reducible rfl
                                          rotate_left
                                          · simp only [Act.put, List.setIfInBounds_toArray, List.set_cons_zero, List.set_cons_succ, i64_w, i32_w]
                                            rfl
                                          refine take_ (i := 1) (N := some 58) (v := ?_) (a' := ?_) #[true, true, true, false, false, false, false, false, false, false, false, false, false, false, false, false, false, false, false, false, false, false, false, false, false, false, false, false, false, false, false, false, false, false] rfl rfl (take_ofW HT_.out HW_.out (by kernel_rfl)) (fun _ _ _ h => h) (Or.inl ⟨by rfl, ?_⟩) hHeld ?_ ?_
                                          rotate_left
                                          · rintro w' ⟨s0, s1, s2, s3, s4, s5⟩
                                            go_simp
                                            with_reducible rfl
                                          rotate_left
                                          · simp only [Act.put, List.setIfInBounds_toArray, List.set_cons_zero, List.set_cons_succ, i64_w, i32_w]
                                            rfl
                                          refine pure_ (i := 3) (N := some 60) (v := ?_) (a' := ?_) #[true, true, true, true, false, false, false, false, false, false, false, false, false, false, false, false, false, false, false, false, false, false, false, false, false, false, false, false, false, false, false, false, false, false] rfl rfl (any_of HT_.out (by kernel_rfl)) (fun _ _ _ h => h) (Or.inl ⟨by rfl, ?_⟩) ?_ ?_
                                          rotate_left
                                          · intro w'
                                            go_simp
                                            with_reducible rfl
                                          rotate_left
                                          · simp only [Act.put, List.setIfInBounds_toArray, List.set_cons_zero, List.set_cons_succ, i64_w, i32_w]
                                            rfl
                                          refine take_ (i := 4) (N := some 61) (v := ?_) (a' := ?_) #[true, true, true, true, true, false, false, false, false, false, false, false, false, false, false, false, false, false, false, false, false, false, false, false, false, false, false, false, false, false, false, false, false, false] rfl rfl (take_ofW HT_.out HW_.out (by kernel_rfl)) (fun _ _ _ h => h) (Or.inl ⟨by rfl, ?_⟩) hHeld ?_ ?_
                                          rotate_left
                                          · rintro w' ⟨s0, s1, s2, s3, s4, s5⟩
                                            go_simp
                                            with_reducible rfl
                                          rotate_left
                                          · simp only [Act.put, List.setIfInBounds_toArray, List.set_cons_zero, List.set_cons_succ, i64_w, i32_w]
                                            rfl
                                          refine pure_ (i := 5) (N := some 62) (v := ?_) (a' := ?_) #[true, true, true, true, true, true, false, false, false, false, false, false, false, false, false, false, false, false, false, false, false, false, false, false, false, false, false, false, false, false, false, false, false, false] rfl rfl (any_of HT_.out (by kernel_rfl)) (fun _ _ _ h => h) (Or.inl ⟨by rfl, ?_⟩) ?_ ?_
                                          rotate_left
                                          · intro w'
                                            go_simp
                                            with_reducible rfl
                                          rotate_left
                                          · simp only [Act.put, List.setIfInBounds_toArray, List.set_cons_zero, List.set_cons_succ, i64_w, i32_w]
                                            rfl
                                          refine pure_ (i := 6) (N := some 63) (v := ?_) (a' := ?_) #[true, true, true, true, true, true, true, false, false, false, false, false, false, false, false, false, false, false, false, false, false, false, false, false, false, false, false, false, false, false, false, false, false, false] rfl rfl (any_of HT_.out (by kernel_rfl)) (fun _ _ _ h => h) (Or.inl ⟨by rfl, ?_⟩) ?_ ?_
                                          rotate_left
                                          · intro w'
                                            go_simp
                                            with_reducible rfl
                                          rotate_left
                                          · simp only [Act.put, List.setIfInBounds_toArray, List.set_cons_zero, List.set_cons_succ, i64_w, i32_w]
                                            rfl
                                          refine pure_ (i := 7) (N := some 64) (v := ?_) (a' := ?_) #[true, true, true, true, true, true, true, true, false, false, false, false, false, false, false, false, false, false, false, false, false, false, false, false, false, false, false, false, false, false, false, false, false, false] rfl rfl (any_of HT_.out (by kernel_rfl)) (fun _ _ _ h => h) (Or.inl ⟨by rfl, ?_⟩) ?_ ?_
                                          rotate_left
                                          · intro w'
                                            go_simp
                                            with_reducible rfl
                                          rotate_left
                                          · simp only [Act.put, List.setIfInBounds_toArray, List.set_cons_zero, List.set_cons_succ, i64_w, i32_w]
                                            rfl
                                          refine pure_ (i := 9) (N := some 66) (v := ?_) (a' := ?_) #[true, true, true, true, true, true, true, true, false, true, false, false, false, false, false, false, false, false, false, false, false, false, false, false, false, false, false, false, false, false, false, false, false, false] rfl rfl (any_of HT_.out (by kernel_rfl)) (fun _ _ _ h => h) (Or.inl ⟨by rfl, ?_⟩) ?_ ?_
                                          rotate_left
                                          · intro w'
                                            go_simp
                                            with_reducible rfl
                                          rotate_left
                                          · simp only [Act.put, List.setIfInBounds_toArray, List.set_cons_zero, List.set_cons_succ, i64_w, i32_w]
                                            rfl
                                          refine pure_ (i := 12) (N := some 69) (v := ?_) (a' := ?_) #[true, true, true, true, true, true, true, true, false, true, false, false, true, false, false, false, false, false, false, false, false, false, false, false, false, false, false, false, false, false, false, false, false, false] rfl rfl (any_of HT_.out (by kernel_rfl)) (fun _ _ _ h => h) (Or.inl ⟨by rfl, ?_⟩) ?_ ?_
                                          rotate_left
                                          · intro w'
                                            go_simp
                                            with_reducible rfl
                                          rotate_left
                                          · simp only [Act.put, List.setIfInBounds_toArray, List.set_cons_zero, List.set_cons_succ, i64_w, i32_w]
                                            rfl
                                          refine pure_ (i := 13) (N := some 70) (v := ?_) (a' := ?_) #[true, true, true, true, true, true, true, true, false, true, false, false, true, true, false, false, false, false, false, false, false, false, false, false, false, false, false, false, false, false, false, false, false, false] rfl rfl (any_of HT_.out (by kernel_rfl)) (fun _ _ _ h => h) (Or.inl ⟨by rfl, ?_⟩) ?_ ?_
                                          rotate_left
                                          · intro w'
                                            go_simp
                                            with_reducible rfl
                                          rotate_left
                                          · simp only [Act.put, List.setIfInBounds_toArray, List.set_cons_zero, List.set_cons_succ, i64_w, i32_w]
                                            rfl
                                          refine take_ (i := 8) (N := some 65) (v := ?_) (a' := ?_) #[true, true, true, true, true, true, true, true, true, true, false, false, true, true, false, false, false, false, false, false, false, false, false, false, false, false, false, false, false, false, false, false, false, false] rfl rfl (take_ofW HT_.out HW_.out (by kernel_rfl)) (fun _ _ _ h => h) (Or.inl ⟨by rfl, ?_⟩) hHeld ?_ ?_
                                          rotate_left
                                          · rintro w' ⟨s0, s1, s2, s3, s4, s5⟩
                                            go_simp
                                            with_reducible rfl
                                          rotate_left
                                          · simp only [Act.put, List.setIfInBounds_toArray, List.set_cons_zero, List.set_cons_succ, i64_w, i32_w]
                                            rfl
                                          refine pure_ (i := 10) (N := some 67) (v := ?_) (a' := ?_) #[true, true, true, true, true, true, true, true, true, true, true, false, true, true, false, false, false, false, false, false, false, false, false, false, false, false, false, false, false, false, false, false, false, false] rfl rfl (any_of HT_.out (by kernel_rfl)) (fun _ _ _ h => h) (Or.inl ⟨by rfl, ?_⟩) ?_ ?_
                                          rotate_left
                                          · intro w'
                                            go_simp
                                            with_reducible rfl
                                          rotate_left
                                          · simp only [Act.put, List.setIfInBounds_toArray, List.set_cons_zero, List.set_cons_succ, i64_w, i32_w]
                                            rfl
                                          refine take_ (i := 11) (N := some 68) (v := ?_) (a' := ?_) #[true, true, true, true, true, true, true, true, true, true, true, true, true, true, false, false, false, false, false, false, false, false, false, false, false, false, false, false, false, false, false, false, false, false] rfl rfl (take_ofW HT_.out HW_.out (by kernel_rfl)) (fun _ _ _ h => h) (Or.inl ⟨by rfl, ?_⟩) hHeld ?_ ?_
                                          rotate_left
                                          · rintro w' ⟨s0, s1, s2, s3, s4, s5⟩
                                            go_simp
                                            with_reducible rfl
                                          rotate_left
                                          · simp only [Act.put, List.setIfInBounds_toArray, List.set_cons_zero, List.set_cons_succ, i64_w, i32_w]
                                            rfl
                                          refine pure_ (i := 14) (N := some 71) (v := ?_) (a' := ?_) #[true, true, true, true, true, true, true, true, true, true, true, true, true, true, true, false, false, false, false, false, false, false, false, false, false, false, false, false, false, false, false, false, false, false] rfl rfl (any_of HT_.out (by kernel_rfl)) (fun _ _ _ h => h) (Or.inl ⟨by rfl, ?_⟩) ?_ ?_
                                          rotate_left
                                          · intro w'
                                            go_simp
                                            with_reducible rfl
                                          rotate_left
                                          · simp only [Act.put, List.setIfInBounds_toArray, List.set_cons_zero, List.set_cons_succ, i64_w, i32_w]
                                            rfl
                                          refine pure_ (i := 15) (N := some 72) (v := ?_) (a' := ?_) #[true, true, true, true, true, true, true, true, true, true, true, true, true, true, true, true, false, false, false, false, false, false, false, false, false, false, false, false, false, false, false, false, false, false] rfl rfl (any_of HT_.out (by kernel_rfl)) (fun _ _ _ h => h) (Or.inl ⟨by rfl, ?_⟩) ?_ ?_
                                          rotate_left
                                          · intro w'
                                            go_simp
                                            with_reducible rfl
                                          rotate_left
                                          · simp only [Act.put, List.setIfInBounds_toArray, List.set_cons_zero, List.set_cons_succ, i64_w, i32_w]
                                            rfl
                                          refine pure_ (i := 16) (N := some 73) (v := ?_) (a' := ?_) #[true, true, true, true, true, true, true, true, true, true, true, true, true, true, true, true, true, false, false, false, false, false, false, false, false, false, false, false, false, false, false, false, false, false] rfl rfl (any_of HT_.out (by kernel_rfl)) (fun _ _ _ h => h) (Or.inl ⟨by rfl, ?_⟩) ?_ ?_
                                          rotate_left
                                          · intro w'
                                            go_simp
                                            with_reducible rfl
                                          rotate_left
                                          · simp only [Act.put, List.setIfInBounds_toArray, List.set_cons_zero, List.set_cons_succ, i64_w, i32_w]
                                            rfl
                                          refine pure_ (i := 17) (N := some 74) (v := ?_) (a' := ?_) #[true, true, true, true, true, true, true, true, true, true, true, true, true, true, true, true, true, true, false, false, false, false, false, false, false, false, false, false, false, false, false, false, false, false] rfl rfl (any_of HT_.out (by kernel_rfl)) (fun _ _ _ h => h) (Or.inl ⟨by rfl, ?_⟩) ?_ ?_
                                          rotate_left
                                          · intro w'
                                            go_simp
                                            with_reducible rfl
                                          rotate_left
                                          · simp only [Act.put, List.setIfInBounds_toArray, List.set_cons_zero, List.set_cons_succ, i64_w, i32_w]
                                            rfl
                                          refine pure_ (i := 18) (N := some 75) (v := ?_) (a' := ?_) #[true, true, true, true, true, true, true, true, true, true, true, true, true, true, true, true, true, true, true, false, false, false, false, false, false, false, false, false, false, false, false, false, false, false] rfl rfl (any_of HT_.out (by kernel_rfl)) (fun _ _ _ h => h) (Or.inl ⟨by rfl, ?_⟩) ?_ ?_
                                          rotate_left
                                          · intro w'
                                            go_simp
                                            with_reducible rfl
                                          rotate_left
                                          · simp only [Act.put, List.setIfInBounds_toArray, List.set_cons_zero, List.set_cons_succ, i64_w, i32_w]
                                            rfl
                                          refine pure_ (i := 19) (N := some 76) (v := ?_) (a' := ?_) #[true, true, true, true, true, true, true, true, true, true, true, true, true, true, true, true, true, true, true, true, false, false, false, false, false, false, false, false, false, false, false, false, false, false] rfl rfl (any_of HT_.out (by kernel_rfl)) (fun _ _ _ h => h) (Or.inl ⟨by rfl, ?_⟩) ?_ ?_
                                          rotate_left
                                          · intro w'
                                            go_simp
                                            with_reducible rfl
                                          rotate_left
                                          · simp only [Act.put, List.setIfInBounds_toArray, List.set_cons_zero, List.set_cons_succ, i64_w, i32_w]
                                            rfl
                                          refine pure_ (i := 20) (N := some 77) (v := ?_) (a' := ?_) #[true, true, true, true, true, true, true, true, true, true, true, true, true, true, true, true, true, true, true, true, true, false, false, false, false, false, false, false, false, false, false, false, false, false] rfl rfl (any_of HT_.out (by kernel_rfl)) (fun _ _ _ h => h) (Or.inl ⟨by rfl, ?_⟩) ?_ ?_
                                          rotate_left
                                          · intro w'
                                            go_simp
                                            with_reducible rfl
                                          rotate_left
                                          · simp only [Act.put, List.setIfInBounds_toArray, List.set_cons_zero, List.set_cons_succ, i64_w, i32_w]
                                            rfl
                                          refine pure_ (i := 22) (N := some 79) (v := ?_) (a' := ?_) #[true, true, true, true, true, true, true, true, true, true, true, true, true, true, true, true, true, true, true, true, true, false, true, false, false, false, false, false, false, false, false, false, false, false] rfl rfl (any_of HT_.out (by kernel_rfl)) (fun _ _ _ h => h) (Or.inl ⟨by rfl, ?_⟩) ?_ ?_
                                          rotate_left
                                          · intro w'
                                            go_simp
                                            with_reducible rfl
                                          rotate_left
                                          · simp only [Act.put, List.setIfInBounds_toArray, List.set_cons_zero, List.set_cons_succ, i64_w, i32_w]
                                            rfl
                                          refine pure_ (i := 23) (N := some 80) (v := ?_) (a' := ?_) #[true, true, true, true, true, true, true, true, true, true, true, true, true, true, true, true, true, true, true, true, true, false, true, true, false, false, false, false, false, false, false, false, false, false] rfl rfl (any_of HT_.out (by kernel_rfl)) (fun _ _ _ h => h) (Or.inl ⟨by rfl, ?_⟩) ?_ ?_
                                          rotate_left
                                          · intro w'
                                            go_simp
                                            with_reducible rfl
                                          rotate_left
                                          · simp only [Act.put, List.setIfInBounds_toArray, List.set_cons_zero, List.set_cons_succ, i64_w, i32_w]
                                            rfl
                                          refine pure_ (i := 26) (N := some 83) (v := ?_) (a' := ?_) #[true, true, true, true, true, true, true, true, true, true, true, true, true, true, true, true, true, true, true, true, true, false, true, true, false, false, true, false, false, false, false, false, false, false] rfl rfl (any_of HT_.out (by kernel_rfl)) (fun _ _ _ h => h) (Or.inl ⟨by rfl, ?_⟩) ?_ ?_
                                          rotate_left
                                          · intro w'
                                            go_simp
                                            with_reducible rfl
                                          rotate_left
                                          · simp only [Act.put, List.setIfInBounds_toArray, List.set_cons_zero, List.set_cons_succ, i64_w, i32_w]
                                            rfl
                                          refine pure_ (i := 28) (N := some 85) (v := ?_) (a' := ?_) #[true, true, true, true, true, true, true, true, true, true, true, true, true, true, true, true, true, true, true, true, true, false, true, true, false, false, true, false, true, false, false, false, false, false] rfl rfl (any_of HT_.out (by kernel_rfl)) (fun _ _ _ h => h) (Or.inl ⟨by rfl, ?_⟩) ?_ ?_
                                          rotate_left
                                          · intro w'
                                            go_simp
                                            with_reducible rfl
                                          rotate_left
                                          · simp only [Act.put, List.setIfInBounds_toArray, List.set_cons_zero, List.set_cons_succ, i64_w, i32_w]
                                            rfl
                                          refine take_ (i := 21) (N := some 78) (v := ?_) (a' := ?_) #[true, true, true, true, true, true, true, true, true, true, true, true, true, true, true, true, true, true, true, true, true, true, true, true, false, false, true, false, true, false, false, false, false, false] rfl rfl (take_ofW HT_.out HW_.out (by kernel_rfl)) (fun _ _ _ h => h) (Or.inl ⟨by rfl, ?_⟩) hHeld ?_ ?_
                                          rotate_left
                                          · rintro w' ⟨s0, s1, s2, s3, s4, s5⟩
                                            go_simp
                                            with_reducible rfl
                                          rotate_left
                                          · simp only [Act.put, List.setIfInBounds_toArray, List.set_cons_zero, List.set_cons_succ, i64_w, i32_w]
                                            rfl
                                          refine pure_ (i := 24) (N := some 81) (v := ?_) (a' := ?_) #[true, true, true, true, true, true, true, true, true, true, true, true, true, true, true, true, true, true, true, true, true, true, true, true, true, false, true, false, true, false, false, false, false, false] rfl rfl (any_of HT_.out (by kernel_rfl)) (fun _ _ _ h => h) (Or.inl ⟨by rfl, ?_⟩) ?_ ?_
                                          rotate_left
                                          · intro w'
                                            go_simp
                                            with_reducible rfl
                                          rotate_left
                                          · simp only [Act.put, List.setIfInBounds_toArray, List.set_cons_zero, List.set_cons_succ, i64_w, i32_w]
                                            rfl
                                          refine take_ (i := 25) (N := some 82) (v := ?_) (a' := ?_) #[true, true, true, true, true, true, true, true, true, true, true, true, true, true, true, true, true, true, true, true, true, true, true, true, true, true, true, false, true, false, false, false, false, false] rfl rfl (take_ofW HT_.out HW_.out (by kernel_rfl)) (fun _ _ _ h => h) (Or.inl ⟨by rfl, ?_⟩) hHeld ?_ ?_
                                          rotate_left
                                          · rintro w' ⟨s0, s1, s2, s3, s4, s5⟩
                                            go_simp
                                            with_reducible rfl
                                          rotate_left
                                          · simp only [Act.put, List.setIfInBounds_toArray, List.set_cons_zero, List.set_cons_succ, i64_w, i32_w]
                                            rfl
                                          refine take_ (i := 27) (N := some 84) (v := ?_) (a' := ?_) #[true, true, true, true, true, true, true, true, true, true, true, true, true, true, true, true, true, true, true, true, true, true, true, true, true, true, true, true, true, false, false, false, false, false] rfl rfl (take_ofW HT_.out HW_.out (by kernel_rfl)) (fun _ _ _ h => h) (Or.inl ⟨by rfl, ?_⟩) hHeld ?_ ?_
                                          rotate_left
                                          · rintro w' ⟨s0, s1, s2, s3, s4, s5⟩
                                            go_simp
                                            with_reducible rfl
                                          rotate_left
                                          · simp only [Act.put, List.setIfInBounds_toArray, List.set_cons_zero, List.set_cons_succ, i64_w, i32_w]
                                            rfl
                                          refine pure_ (i := 29) (N := some 86) (v := ?_) (a' := ?_) #[true, true, true, true, true, true, true, true, true, true, true, true, true, true, true, true, true, true, true, true, true, true, true, true, true, true, true, true, true, true, false, false, false, false] rfl rfl (any_of HT_.out (by kernel_rfl)) (fun _ _ _ h => h) (Or.inl ⟨by rfl, ?_⟩) ?_ ?_
                                          rotate_left
                                          · intro w'
                                            go_simp
                                            with_reducible rfl
                                          rotate_left
                                          · simp only [Act.put, List.setIfInBounds_toArray, List.set_cons_zero, List.set_cons_succ, i64_w, i32_w]
                                            rfl
                                          refine take_ (i := 30) (N := some 87) (v := ?_) (a' := ?_) #[true, true, true, true, true, true, true, true, true, true, true, true, true, true, true, true, true, true, true, true, true, true, true, true, true, true, true, true, true, true, true, false, false, false] rfl rfl (take_ofW HT_.out HW_.out (by kernel_rfl)) (fun _ _ _ h => h) (Or.inl ⟨by rfl, ?_⟩) hHeld ?_ ?_
                                          rotate_left
                                          · rintro w' ⟨s0, s1, s2, s3, s4, s5⟩
                                            go_simp
                                            with_reducible rfl
                                          rotate_left
                                          · simp only [Act.put, List.setIfInBounds_toArray, List.set_cons_zero, List.set_cons_succ, i64_w, i32_w]
                                            rfl
                                          refine pure_ (i := 31) (N := some 88) (v := ?_) (a' := ?_) #[true, true, true, true, true, true, true, true, true, true, true, true, true, true, true, true, true, true, true, true, true, true, true, true, true, true, true, true, true, true, true, true, false, false] rfl rfl (any_of HT_.out (by kernel_rfl)) (fun _ _ _ h => h) (Or.inl ⟨by rfl, ?_⟩) ?_ ?_
                                          rotate_left
                                          · intro w'
                                            go_simp
                                            with_reducible rfl
                                          rotate_left
                                          · simp only [Act.put, List.setIfInBounds_toArray, List.set_cons_zero, List.set_cons_succ, i64_w, i32_w]
                                            rfl
                                          refine pure_ (i := 32) (N := some 89) (v := ?_) (a' := ?_) #[true, true, true, true, true, true, true, true, true, true, true, true, true, true, true, true, true, true, true, true, true, true, true, true, true, true, true, true, true, true, true, true, true, false] rfl rfl (any_of HT_.out (by kernel_rfl)) (fun _ _ _ h => h) (Or.inl ⟨by rfl, ?_⟩) ?_ ?_
                                          rotate_left
                                          · intro w'
                                            go_simp
                                            with_reducible rfl
                                          rotate_left
                                          · simp only [Act.put, List.setIfInBounds_toArray, List.set_cons_zero, List.set_cons_succ, i64_w, i32_w]
                                            rfl
                                          refine pure_ (i := 33) (N := some 90) (v := ?_) (a' := ?_) #[true, true, true, true, true, true, true, true, true, true, true, true, true, true, true, true, true, true, true, true, true, true, true, true, true, true, true, true, true, true, true, true, true, true] rfl rfl (any_of HT_.out (by kernel_rfl)) (fun _ _ _ h => h) (Or.inl ⟨by rfl, ?_⟩) ?_ ?_
                                          rotate_left
                                          · intro w'
                                            go_simp
                                            with_reducible rfl
                                          rotate_left
                                          · simp only [Act.put, List.setIfInBounds_toArray, List.set_cons_zero, List.set_cons_succ, i64_w, i32_w]
                                            rfl
                                          refine done_ (done_of HT_.out (by kernel_rfl)) ?_
                                          have hcz36_0 : w34.cell? ⟨gb351, 0, none⟩ = some (.slice (some ad352) t347.length co17) := (blk_cell BK351.out 0).trans rfl
                                          have hcz36_1 : w34.cell? ⟨gb351, 1, none⟩ = some (.int .i64 t350) := (blk_cell BK351.out 1).trans rfl
                                          have hfz36_0 := blk_frozen BK351.out 0
                                          have hfz36_1 := blk_frozen BK351.out 1
                                          have p361 : 0 ≤ (x10_1 : Int) := of_decide_eq_true (by first | (with_reducible assumption) | assumption)
                                          have q361 : x10_1 < (t347.length : Int) := of_decide_eq_true (by first | (with_reducible assumption) | assumption)
                                          obtain ⟨ad361, e361, hx361_0⟩ := Kd.at_int (Kd.R_reads' HO_352000.out).2.2 x10_1 p361 q361
                                          obtain rfl : ad352 = ad361 := (by injection e361)
                                          replace p361 := eq_true p361
                                          replace q361 := eq_true q361
                                          have p32 : 0 ≤ ((rd t347 x10_1) : Int) := of_decide_eq_true (by first | (with_reducible assumption) | assumption)
                                          have q32 : ((rd t347 x10_1) : Int) < ((x9_1.length : Int) : Int) := of_decide_eq_true (by first | (with_reducible assumption) | assumption)
                                          obtain ⟨go32, co32, eo32, gb32, gl32, cl32, HG32⟩ := Kd.R_form HO_9.out (by omega)
                                          (first | cases eo32 | (injection eo32 with ea_ en_ ec_; (first | subst ea_ | (injection ea_ with ea_; subst ea_)); subst ec_; clear en_))
                                          have GB32 := Aside0.mk gb32
                                          have GG32 := Aside0.mk HG32
                                          clear gb32 gl32 HG32
                                          obtain ⟨hx32_0, hf32_0⟩ := Kd.R_celln false HO_9.out ((rd t347 x10_1) : Int) p32 q32
                                          replace p32 := eq_true p32
                                          replace q32 := eq_true q32
                                          obtain ⟨hy37_, hz37_⟩ := Kd.R_celln false HO_9.out ((rd t347 x10_1) : Int) (of_decide_eq_true (by first | (with_reducible assumption) | assumption)) (of_decide_eq_true (by first | (with_reducible assumption) | assumption))
                                          have HP37 := Kd.R_putg HO_9.out ((rd t347 x10_1) : Int) true
                                          try go_wp2_with (first | ((with_reducible refine gate_store (t := 4) (p := 97) rfl ?_); refine store_event (t := 4) (p := 97) (v := ?vo_w38) (w1 := (w34.setCell ⟨go32, ((rd t347 x10_1) : Int).toNat, none⟩ (.bool true))) ?hg ?ho ?hn ?hr ?_; (case ho => rfl); (case hg => rfl); (case hn => rfl); (case hr => first | (go_simp; done) | (go_simp; rfl)); intro w38 hw; have hg : w34.grownBy w38 (some go32) := (by rw [hw]; exact HP37.2); have hp_ : Kd.R Kd.bool 4 w38 w.heap.size (fun _ => True) (.slice (some ⟨go32, 0, none⟩) x9_1.length co35) y362 := (by rw [hw, Ny362.out]; exact HP37.1); clear HP37; have n0_ := Aside0.mk (hp_); have n1_ := Aside0.mk (Kd.R_over' (v := (.slice (some ⟨go32, 0, none⟩) x9_1.length co35)) (by (with_reducible repeat (first | apply Kd.R_alloc | apply Kd.R_drewN | apply Kd.R_drew)); exact HO_352000.out) (Kd.R_typed HO_9.out) (by decide) hg); have n2_ := Aside0.mk (blk_grown (g := gb351) (o := .cells #[.slice (some ad352) t347.length co17, .int .i64 t350] 55 (0, 0)) (by (with_reducible repeat (first | refine blk_drewN ?_ _ | refine blk_drew ?_ | refine blk_alloc ?_ _)); exact BK351.out) hg (Kd.R_ne HO_9.out BK351.out (by decide))); have n3_ := Aside0.mk ((by rw [hw]; exact below_set (HB.out) GB32.out : Below w.heap.size w w38)); clear HO_9; clear HO_352000; clear BK351; clear HB; have HO_9 := n0_; have HO_352000 := n1_; have BK351 := n2_; have HB := n3_; clear n0_ n1_ n2_ n3_; clear hg hw hp_))
                                          go_roundg k1
                                          case measure => have := HK1.out; omega
                                          case rel => exact ⟨(y362), (wrap64 (x10_1 + 1)), (by first | rfl | (simp; done) | (simp [*]; done)), H', ⟨by have := HK1.out; omega⟩, ⟨by (with_reducible repeat (first | apply Kd.R_alloc | apply Kd.R_drewN | apply Kd.R_drew)); exact HO_9.out⟩, ⟨by (with_reducible repeat (first | apply Kd.R_alloc | apply Kd.R_drewN | apply Kd.R_drew)); exact HO_352000.out⟩, ⟨by (with_reducible repeat (first | refine blk_drewN ?_ _ | refine blk_drew ?_ | refine blk_alloc ?_ _)); exact BK351.out⟩, ⟨by repeat (first | (with_reducible first | exact HB.out | apply below_alloc | apply pw_below_drewN | apply below_drew1 | refine below_set ?_ GE351.out) | exact HB.out)⟩⟩
                                        · rw [if_neg c31] at H
                                          exact absurd H (by simp)
                                      · rw [if_neg c30] at H
                                        exact absurd H (by simp)
                                  · rw [if_neg c28] at H
                                    exact absurd H (by simp)
                                · rw [if_neg c27] at H
                                  exact absurd H (by simp)
                              · rw [if_neg c25] at H
                                have c25b0 : decide (0 < x10_1) = false := decide_eq_false c25
                                clear c25
                                by_cases c39 : 0 ≤ (rd t347 x10_1)
                                · rw [if_pos c39] at H
                                  have c39b0 : decide (0 ≤ (rd t347 x10_1)) = true := decide_eq_true c39
                                  clear c39
                                  by_cases c40 : (rd t347 x10_1) < (x9_1.length : Int)
                                  · rw [if_pos c40] at H
                                    have c40b0 : decide ((rd t347 x10_1) < (x9_1.length : Int)) = true := decide_eq_true c40
                                    clear c40
                                    obtain ⟨y364, hy364⟩ : ∃ y_ : List Bool, y_ = (x9_1.set ((rd t347 x10_1) : Int).toNat true) := ⟨_, rfl⟩
                                    replace H : (plexuslaw23_BoundLexicode.l0 k1 true (wrap64 (1 + (Int.tmod (wrap64 (a1)) (wrap64 (1 + (Int.tmod (wrap64 (a0)) 9)))))) y364 (wrap64 (x10_1 + 1)) t347 t350) = some r := by first | (rw [hy364]; with_reducible exact H) | (have H2_ := (Option.bind_some _ _).symm.trans H; rw [hy364]; with_reducible exact H2_) | (have H2_ := (Option.bind_some _ _).symm.trans H; with_reducible exact H2_) | with_reducible exact H | (rw [hy364]; exact H) | exact H
                                    have Ny364 := Aside0.mk hy364
                                    clear hy364
                                    have H' := Aside0.mk H
                                    clear H
                                    have hcz42_0 : wr.cell? ⟨gb351, 0, none⟩ = some (.slice (some ad352) t347.length co17) := (blk_cell BK351.out 0).trans rfl
                                    have hcz42_1 : wr.cell? ⟨gb351, 1, none⟩ = some (.int .i64 t350) := (blk_cell BK351.out 1).trans rfl
                                    have hfz42_0 := blk_frozen BK351.out 0
                                    have hfz42_1 := blk_frozen BK351.out 1
                                    try go_wp2
                                    have n0_ := Aside0.mk (Kd.R_drew HO_9.out)
                                    have n1_ := Aside0.mk (Kd.R_drew HO_352000.out)
                                    have n2_ := Aside0.mk (blk_drew BK351.out)
                                    have n3_ := Aside0.mk (below_drew1 HB.out)
                                    clear HO_9
                                    clear HO_352000
                                    clear BK351
                                    clear HB
                                    have HO_9 := n0_
                                    have HO_352000 := n1_
                                    have BK351 := n2_
                                    have HB := n3_
                                    clear n0_ n1_ n2_ n3_
                                    have p357 : 0 ≤ (x10_1 : Int) := of_decide_eq_true (by first | (with_reducible assumption) | assumption)
                                    have q357 : x10_1 < (t347.length : Int) := of_decide_eq_true (by first | (with_reducible assumption) | assumption)
                                    obtain ⟨ad357, e357, hx357_0⟩ := Kd.at_int (Kd.R_reads' HO_352000.out).2.2 x10_1 p357 q357
                                    obtain rfl : ad352 = ad357 := (by injection e357)
                                    replace p357 := eq_true p357
                                    replace q357 := eq_true q357
                                    have p358 : 0 ≤ (x10_1 : Int) := of_decide_eq_true (by first | (with_reducible assumption) | assumption)
                                    have q358 : x10_1 < (t347.length : Int) := of_decide_eq_true (by first | (with_reducible assumption) | assumption)
                                    obtain ⟨ad358, e358, hx358_0⟩ := Kd.at_int (Kd.R_reads' HO_352000.out).2.2 x10_1 p358 q358
                                    obtain rfl : ad352 = ad358 := (by injection e358)
                                    replace p358 := eq_true p358
                                    replace q358 := eq_true q358
                                    obtain ⟨Ao44, co44, eo44⟩ := Kd.R_slice HO_9.out
                                    (first | subst eo44 | (injection eo44 with f1_ f2_ f3_; have f4_ := f1_.symm; have f5_ := f3_.symm; clear f1_ f2_ f3_; subst f4_; subst f5_))
                                    refine start_ (n := 34) (S := fun w' => w'.cell? ⟨gb351, 0, none⟩ = some (.slice (some ad352) t347.length co17) ∧ w'.cell? ⟨gb351, 1, none⟩ = some (.int .i64 t350) ∧ w'.cell? (ad352.add (x10_1).toNat) = some (.int .i64 (rd t347 x10_1)) ∧ w'.cell? (ad352.add (x10_1).toNat) = some (.int .i64 (rd t347 x10_1))) (ds := []) #[false, false, false, false, false, false, false, false, false, false, false, false, false, false, false, false, false, false, false, false, false, false, false, false, false, false, false, false, false, false, false, false, false, false] (by kernel_rfl) rfl rfl ⟨(blk_cell BK351.out 0).trans rfl, (blk_cell BK351.out 1).trans rfl, hx357_0, hx358_0⟩ (fun hHeld => ?_); refine with_tabW plexuslaw23_BoundLexicode.tab13 plexuslaw23_BoundLexicode.bits13 (fun HT_ HW_ => ?_)
                                    generalize wr.drew = w43 at HO_9 HO_352000 BK351 HB hx357_0 hx358_0 hHeld ⊢
                                    refine pure_ (i := 0) (N := some 57) (v := ?_) (a' := ?_) #[true, false, false, false, false, false, false, false, false, false, false, false, false, false, false, false, false, false, false, false, false, false, false, false, false, false, false, false, false, false, false, false, false, false] rfl rfl (any_of HT_.out (by kernel_rfl)) (fun _ _ _ h => h) (Or.inl ⟨by rfl, ?_⟩) ?_ ?_
                                    rotate_left
                                    · intro w'
                                      go_simp
                                      with_reducible rfl
                                    rotate_left
                                    · simp only [Act.put, List.setIfInBounds_toArray, List.set_cons_zero, List.set_cons_succ, i64_w, i32_w]
                                      rfl
                                    refine pure_ (i := 2) (N := some 59) (v := ?_) (a' := ?_) #[true, false, true, false, false, false, false, false, false, false, false, false, false, false, false, false, false, false, false, false, false, false, false, false, false, false, false, false, false, false, false, false, false, false] rfl rfl (any_of HT_.out (by kernel_rfl)) (fun _ _ _ h => h) (Or.inl ⟨by rfl, ?_⟩) ?_ ?_
                                    rotate_left
                                    · intro w'
                                      go_simp
                                      with_reducible rfl
                                    rotate_left
                                    · simp only [Act.put, List.setIfInBounds_toArray, List.set_cons_zero, List.set_cons_succ, i64_w, i32_w]
                                      rfl
                                    refine take_ (i := 1) (N := some 58) (v := ?_) (a' := ?_) #[true, true, true, false, false, false, false, false, false, false, false, false, false, false, false, false, false, false, false, false, false, false, false, false, false, false, false, false, false, false, false, false, false, false] rfl rfl (take_ofW HT_.out HW_.out (by kernel_rfl)) (fun _ _ _ h => h) (Or.inl ⟨by rfl, ?_⟩) hHeld ?_ ?_
                                    rotate_left
                                    · rintro w' ⟨s0, s1, s2, s3⟩
                                      go_simp
                                      with_reducible rfl
                                    rotate_left
                                    · simp only [Act.put, List.setIfInBounds_toArray, List.set_cons_zero, List.set_cons_succ, i64_w, i32_w]
                                      rfl
                                    refine pure_ (i := 3) (N := some 60) (v := ?_) (a' := ?_) #[true, true, true, true, false, false, false, false, false, false, false, false, false, false, false, false, false, false, false, false, false, false, false, false, false, false, false, false, false, false, false, false, false, false] rfl rfl (any_of HT_.out (by kernel_rfl)) (fun _ _ _ h => h) (Or.inl ⟨by rfl, ?_⟩) ?_ ?_
                                    rotate_left
                                    · intro w'
                                      go_simp
                                      with_reducible rfl
                                    rotate_left
                                    · simp only [Act.put, List.setIfInBounds_toArray, List.set_cons_zero, List.set_cons_succ, i64_w, i32_w]
                                      rfl
                                    refine take_ (i := 4) (N := some 61) (v := ?_) (a' := ?_) #[true, true, true, true, true, false, false, false, false, false, false, false, false, false, false, false, false, false, false, false, false, false, false, false, false, false, false, false, false, false, false, false, false, false] rfl rfl (take_ofW HT_.out HW_.out (by kernel_rfl)) (fun _ _ _ h => h) (Or.inl ⟨by rfl, ?_⟩) hHeld ?_ ?_
                                    rotate_left
                                    · rintro w' ⟨s0, s1, s2, s3⟩
                                      go_simp
                                      with_reducible rfl
                                    rotate_left
                                    · simp only [Act.put, List.setIfInBounds_toArray, List.set_cons_zero, List.set_cons_succ, i64_w, i32_w]
                                      rfl
                                    refine pure_ (i := 5) (N := some 62) (v := ?_) (a' := ?_) #[true, true, true, true, true, true, false, false, false, false, false, false, false, false, false, false, false, false, false, false, false, false, false, false, false, false, false, false, false, false, false, false, false, false] rfl rfl (any_of HT_.out (by kernel_rfl)) (fun _ _ _ h => h) (Or.inl ⟨by rfl, ?_⟩) ?_ ?_
                                    rotate_left
                                    · intro w'
                                      go_simp
                                      with_reducible rfl
                                    rotate_left
                                    · simp only [Act.put, List.setIfInBounds_toArray, List.set_cons_zero, List.set_cons_succ, i64_w, i32_w]
                                      rfl
                                    refine pure_ (i := 6) (N := some 63) (v := ?_) (a' := ?_) #[true, true, true, true, true, true, true, false, false, false, false, false, false, false, false, false, false, false, false, false, false, false, false, false, false, false, false, false, false, false, false, false, false, false] rfl rfl (any_of HT_.out (by kernel_rfl)) (fun _ _ _ h => h) (Or.inl ⟨by rfl, ?_⟩) ?_ ?_
                                    rotate_left
                                    · intro w'
                                      go_simp
                                      with_reducible rfl
                                    rotate_left
                                    · simp only [Act.put, List.setIfInBounds_toArray, List.set_cons_zero, List.set_cons_succ, i64_w, i32_w]
                                      rfl
                                    refine pure_ (i := 7) (N := some 64) (v := ?_) (a' := ?_) #[true, true, true, true, true, true, true, true, false, false, false, false, false, false, false, false, false, false, false, false, false, false, false, false, false, false, false, false, false, false, false, false, false, false] rfl rfl (any_of HT_.out (by kernel_rfl)) (fun _ _ _ h => h) (Or.inl ⟨by rfl, ?_⟩) ?_ ?_
                                    rotate_left
                                    · intro w'
                                      go_simp
                                      with_reducible rfl
                                    rotate_left
                                    · simp only [Act.put, List.setIfInBounds_toArray, List.set_cons_zero, List.set_cons_succ, i64_w, i32_w]
                                      rfl
                                    refine pure_ (i := 9) (N := some 66) (v := ?_) (a' := ?_) #[true, true, true, true, true, true, true, true, false, true, false, false, false, false, false, false, false, false, false, false, false, false, false, false, false, false, false, false, false, false, false, false, false, false] rfl rfl (any_of HT_.out (by kernel_rfl)) (fun _ _ _ h => h) (Or.inl ⟨by rfl, ?_⟩) ?_ ?_
                                    rotate_left
                                    · intro w'
                                      go_simp
                                      with_reducible rfl
                                    rotate_left
                                    · simp only [Act.put, List.setIfInBounds_toArray, List.set_cons_zero, List.set_cons_succ, i64_w, i32_w]
                                      rfl
                                    refine pure_ (i := 12) (N := some 69) (v := ?_) (a' := ?_) #[true, true, true, true, true, true, true, true, false, true, false, false, true, false, false, false, false, false, false, false, false, false, false, false, false, false, false, false, false, false, false, false, false, false] rfl rfl (any_of HT_.out (by kernel_rfl)) (fun _ _ _ h => h) (Or.inl ⟨by rfl, ?_⟩) ?_ ?_
                                    rotate_left
                                    · intro w'
                                      go_simp
                                      with_reducible rfl
                                    rotate_left
                                    · simp only [Act.put, List.setIfInBounds_toArray, List.set_cons_zero, List.set_cons_succ, i64_w, i32_w]
                                      rfl
                                    refine pure_ (i := 13) (N := some 70) (v := ?_) (a' := ?_) #[true, true, true, true, true, true, true, true, false, true, false, false, true, true, false, false, false, false, false, false, false, false, false, false, false, false, false, false, false, false, false, false, false, false] rfl rfl (any_of HT_.out (by kernel_rfl)) (fun _ _ _ h => h) (Or.inl ⟨by rfl, ?_⟩) ?_ ?_
                                    rotate_left
                                    · intro w'
                                      go_simp
                                      with_reducible rfl
                                    rotate_left
                                    · simp only [Act.put, List.setIfInBounds_toArray, List.set_cons_zero, List.set_cons_succ, i64_w, i32_w]
                                      rfl
                                    refine take_ (i := 8) (N := some 65) (v := ?_) (a' := ?_) #[true, true, true, true, true, true, true, true, true, true, false, false, true, true, false, false, false, false, false, false, false, false, false, false, false, false, false, false, false, false, false, false, false, false] rfl rfl (take_ofW HT_.out HW_.out (by kernel_rfl)) (fun _ _ _ h => h) (Or.inl ⟨by rfl, ?_⟩) hHeld ?_ ?_
                                    rotate_left
                                    · rintro w' ⟨s0, s1, s2, s3⟩
                                      go_simp
                                      with_reducible rfl
                                    rotate_left
                                    · simp only [Act.put, List.setIfInBounds_toArray, List.set_cons_zero, List.set_cons_succ, i64_w, i32_w]
                                      rfl
                                    refine pure_ (i := 10) (N := some 67) (v := ?_) (a' := ?_) #[true, true, true, true, true, true, true, true, true, true, true, false, true, true, false, false, false, false, false, false, false, false, false, false, false, false, false, false, false, false, false, false, false, false] rfl rfl (any_of HT_.out (by kernel_rfl)) (fun _ _ _ h => h) (Or.inl ⟨by rfl, ?_⟩) ?_ ?_
                                    rotate_left
                                    · intro w'
                                      go_simp
                                      with_reducible rfl
                                    rotate_left
                                    · simp only [Act.put, List.setIfInBounds_toArray, List.set_cons_zero, List.set_cons_succ, i64_w, i32_w]
                                      rfl
                                    refine take_ (i := 11) (N := some 68) (v := ?_) (a' := ?_) #[true, true, true, true, true, true, true, true, true, true, true, true, true, true, false, false, false, false, false, false, false, false, false, false, false, false, false, false, false, false, false, false, false, false] rfl rfl (take_ofW HT_.out HW_.out (by kernel_rfl)) (fun _ _ _ h => h) (Or.inl ⟨by rfl, ?_⟩) hHeld ?_ ?_
                                    rotate_left
                                    · rintro w' ⟨s0, s1, s2, s3⟩
                                      go_simp
                                      with_reducible rfl
                                    rotate_left
                                    · simp only [Act.put, List.setIfInBounds_toArray, List.set_cons_zero, List.set_cons_succ, i64_w, i32_w]
                                      rfl
                                    refine pure_ (i := 14) (N := some 71) (v := ?_) (a' := ?_) #[true, true, true, true, true, true, true, true, true, true, true, true, true, true, true, false, false, false, false, false, false, false, false, false, false, false, false, false, false, false, false, false, false, false] rfl rfl (any_of HT_.out (by kernel_rfl)) (fun _ _ _ h => h) (Or.inl ⟨by rfl, ?_⟩) ?_ ?_
                                    rotate_left
                                    · intro w'
                                      go_simp
                                      with_reducible rfl
                                    rotate_left
                                    · simp only [Act.put, List.setIfInBounds_toArray, List.set_cons_zero, List.set_cons_succ, i64_w, i32_w]
                                      rfl
                                    refine pure_ (i := 15) (N := some 72) (v := ?_) (a' := ?_) #[true, true, true, true, true, true, true, true, true, true, true, true, true, true, true, true, false, false, false, false, false, false, false, false, false, false, false, false, false, false, false, false, false, false] rfl rfl (any_of HT_.out (by kernel_rfl)) (fun _ _ _ h => h) (Or.inl ⟨by rfl, ?_⟩) ?_ ?_
                                    rotate_left
                                    · intro w'
                                      go_simp
                                      with_reducible rfl
                                    rotate_left
                                    · simp only [Act.put, List.setIfInBounds_toArray, List.set_cons_zero, List.set_cons_succ, i64_w, i32_w]
                                      rfl
                                    refine pure_ (i := 16) (N := some 73) (v := ?_) (a' := ?_) #[true, true, true, true, true, true, true, true, true, true, true, true, true, true, true, true, true, false, false, false, false, false, false, false, false, false, false, false, false, false, false, false, false, false] rfl rfl (any_of HT_.out (by kernel_rfl)) (fun _ _ _ h => h) (Or.inl ⟨by rfl, ?_⟩) ?_ ?_
                                    rotate_left
                                    · intro w'
                                      go_simp
                                      with_reducible rfl
                                    rotate_left
                                    · simp only [Act.put, List.setIfInBounds_toArray, List.set_cons_zero, List.set_cons_succ, i64_w, i32_w]
                                      rfl
                                    refine pure_ (i := 17) (N := some 74) (v := ?_) (a' := ?_) #[true, true, true, true, true, true, true, true, true, true, true, true, true, true, true, true, true, true, false, false, false, false, false, false, false, false, false, false, false, false, false, false, false, false] rfl rfl (any_of HT_.out (by kernel_rfl)) (fun _ _ _ h => h) (Or.inl ⟨by rfl, ?_⟩) ?_ ?_
                                    rotate_left
                                    · intro w'
                                      go_simp
                                      with_reducible rfl
                                    rotate_left
                                    · simp only [Act.put, List.setIfInBounds_toArray, List.set_cons_zero, List.set_cons_succ, i64_w, i32_w]
                                      rfl
                                    refine pure_ (i := 18) (N := some 75) (v := ?_) (a' := ?_) #[true, true, true, true, true, true, true, true, true, true, true, true, true, true, true, true, true, true, true, false, false, false, false, false, false, false, false, false, false, false, false, false, false, false] rfl rfl (any_of HT_.out (by kernel_rfl)) (fun _ _ _ h => h) (Or.inl ⟨by rfl, ?_⟩) ?_ ?_
                                    rotate_left
                                    · intro w'
                                      go_simp
                                      with_reducible rfl
                                    rotate_left
                                    · simp only [Act.put, List.setIfInBounds_toArray, List.set_cons_zero, List.set_cons_succ, i64_w, i32_w]
                                      rfl
                                    refine pure_ (i := 19) (N := some 76) (v := ?_) (a' := ?_) #[true, true, true, true, true, true, true, true, true, true, true, true, true, true, true, true, true, true, true, true, false, false, false, false, false, false, false, false, false, false, false, false, false, false] rfl rfl (any_of HT_.out (by kernel_rfl)) (fun _ _ _ h => h) (Or.inl ⟨by rfl, ?_⟩) ?_ ?_
                                    rotate_left
                                    · intro w'
                                      go_simp
                                      with_reducible rfl
                                    rotate_left
                                    · simp only [Act.put, List.setIfInBounds_toArray, List.set_cons_zero, List.set_cons_succ, i64_w, i32_w]
                                      rfl
                                    refine pure_ (i := 20) (N := some 77) (v := undef) (a' := ?_) #[true, true, true, true, true, true, true, true, true, true, true, true, true, true, true, true, true, true, true, true, true, false, false, false, false, false, false, false, false, false, false, false, false, false] rfl rfl (any_of HT_.out (by kernel_rfl)) (fun _ _ _ h => h) (Or.inr ⟨by rfl, rfl⟩) ?_ ?_
                                    rotate_left
                                    · simp only [Act.put, List.setIfInBounds_toArray, List.set_cons_zero, List.set_cons_succ, i64_w, i32_w]
                                      rfl
                                    refine pure_ (i := 21) (N := some 78) (v := undef) (a' := ?_) #[true, true, true, true, true, true, true, true, true, true, true, true, true, true, true, true, true, true, true, true, true, true, false, false, false, false, false, false, false, false, false, false, false, false] rfl rfl (any_of HT_.out (by kernel_rfl)) (fun _ _ _ h => h) (Or.inr ⟨by rfl, rfl⟩) ?_ ?_
                                    rotate_left
                                    · simp only [Act.put, List.setIfInBounds_toArray, List.set_cons_zero, List.set_cons_succ, i64_w, i32_w]
                                      rfl
                                    refine pure_ (i := 22) (N := some 79) (v := undef) (a' := ?_) #[true, true, true, true, true, true, true, true, true, true, true, true, true, true, true, true, true, true, true, true, true, true, true, false, false, false, false, false, false, false, false, false, false, false] rfl rfl (any_of HT_.out (by kernel_rfl)) (fun _ _ _ h => h) (Or.inr ⟨by rfl, rfl⟩) ?_ ?_
                                    rotate_left
                                    · simp only [Act.put, List.setIfInBounds_toArray, List.set_cons_zero, List.set_cons_succ, i64_w, i32_w]
                                      rfl
                                    refine pure_ (i := 23) (N := some 80) (v := undef) (a' := ?_) #[true, true, true, true, true, true, true, true, true, true, true, true, true, true, true, true, true, true, true, true, true, true, true, true, false, false, false, false, false, false, false, false, false, false] rfl rfl (any_of HT_.out (by kernel_rfl)) (fun _ _ _ h => h) (Or.inr ⟨by rfl, rfl⟩) ?_ ?_
                                    rotate_left
                                    · simp only [Act.put, List.setIfInBounds_toArray, List.set_cons_zero, List.set_cons_succ, i64_w, i32_w]
                                      rfl
                                    refine pure_ (i := 24) (N := some 81) (v := undef) (a' := ?_) #[true, true, true, true, true, true, true, true, true, true, true, true, true, true, true, true, true, true, true, true, true, true, true, true, true, false, false, false, false, false, false, false, false, false] rfl rfl (any_of HT_.out (by kernel_rfl)) (fun _ _ _ h => h) (Or.inr ⟨by rfl, rfl⟩) ?_ ?_
                                    rotate_left
                                    · simp only [Act.put, List.setIfInBounds_toArray, List.set_cons_zero, List.set_cons_succ, i64_w, i32_w]
                                      rfl
                                    refine pure_ (i := 25) (N := some 82) (v := undef) (a' := ?_) #[true, true, true, true, true, true, true, true, true, true, true, true, true, true, true, true, true, true, true, true, true, true, true, true, true, true, false, false, false, false, false, false, false, false] rfl rfl (any_of HT_.out (by kernel_rfl)) (fun _ _ _ h => h) (Or.inr ⟨by rfl, rfl⟩) ?_ ?_
                                    rotate_left
                                    · simp only [Act.put, List.setIfInBounds_toArray, List.set_cons_zero, List.set_cons_succ, i64_w, i32_w]
                                      rfl
                                    refine pure_ (i := 26) (N := some 83) (v := undef) (a' := ?_) #[true, true, true, true, true, true, true, true, true, true, true, true, true, true, true, true, true, true, true, true, true, true, true, true, true, true, true, false, false, false, false, false, false, false] rfl rfl (any_of HT_.out (by kernel_rfl)) (fun _ _ _ h => h) (Or.inr ⟨by rfl, rfl⟩) ?_ ?_
                                    rotate_left
                                    · simp only [Act.put, List.setIfInBounds_toArray, List.set_cons_zero, List.set_cons_succ, i64_w, i32_w]
                                      rfl
                                    refine pure_ (i := 27) (N := some 84) (v := undef) (a' := ?_) #[true, true, true, true, true, true, true, true, true, true, true, true, true, true, true, true, true, true, true, true, true, true, true, true, true, true, true, true, false, false, false, false, false, false] rfl rfl (any_of HT_.out (by kernel_rfl)) (fun _ _ _ h => h) (Or.inr ⟨by rfl, rfl⟩) ?_ ?_
                                    rotate_left
                                    · simp only [Act.put, List.setIfInBounds_toArray, List.set_cons_zero, List.set_cons_succ, i64_w, i32_w]
                                      rfl
                                    refine pure_ (i := 28) (N := some 85) (v := undef) (a' := ?_) #[true, true, true, true, true, true, true, true, true, true, true, true, true, true, true, true, true, true, true, true, true, true, true, true, true, true, true, true, true, false, false, false, false, false] rfl rfl (any_of HT_.out (by kernel_rfl)) (fun _ _ _ h => h) (Or.inr ⟨by rfl, rfl⟩) ?_ ?_
                                    rotate_left
                                    · simp only [Act.put, List.setIfInBounds_toArray, List.set_cons_zero, List.set_cons_succ, i64_w, i32_w]
                                      rfl
                                    refine pure_ (i := 29) (N := some 86) (v := undef) (a' := ?_) #[true, true, true, true, true, true, true, true, true, true, true, true, true, true, true, true, true, true, true, true, true, true, true, true, true, true, true, true, true, true, false, false, false, false] rfl rfl (any_of HT_.out (by kernel_rfl)) (fun _ _ _ h => h) (Or.inr ⟨by rfl, rfl⟩) ?_ ?_
                                    rotate_left
                                    · simp only [Act.put, List.setIfInBounds_toArray, List.set_cons_zero, List.set_cons_succ, i64_w, i32_w]
                                      rfl
                                    refine pure_ (i := 30) (N := some 87) (v := undef) (a' := ?_) #[true, true, true, true, true, true, true, true, true, true, true, true, true, true, true, true, true, true, true, true, true, true, true, true, true, true, true, true, true, true, true, false, false, false] rfl rfl (any_of HT_.out (by kernel_rfl)) (fun _ _ _ h => h) (Or.inr ⟨by rfl, rfl⟩) ?_ ?_
                                    rotate_left
                                    · simp only [Act.put, List.setIfInBounds_toArray, List.set_cons_zero, List.set_cons_succ, i64_w, i32_w]
                                      rfl
                                    refine pure_ (i := 31) (N := some 88) (v := undef) (a' := ?_) #[true, true, true, true, true, true, true, true, true, true, true, true, true, true, true, true, true, true, true, true, true, true, true, true, true, true, true, true, true, true, true, true, false, false] rfl rfl (any_of HT_.out (by kernel_rfl)) (fun _ _ _ h => h) (Or.inr ⟨by rfl, rfl⟩) ?_ ?_
                                    rotate_left
                                    · simp only [Act.put, List.setIfInBounds_toArray, List.set_cons_zero, List.set_cons_succ, i64_w, i32_w]
                                      rfl
                                    refine pure_ (i := 32) (N := some 89) (v := ?_) (a' := ?_) #[true, true, true, true, true, true, true, true, true, true, true, true, true, true, true, true, true, true, true, true, true, true, true, true, true, true, true, true, true, true, true, true, true, false] rfl rfl (any_of HT_.out (by kernel_rfl)) (fun _ _ _ h => h) (Or.inl ⟨by rfl, ?_⟩) ?_ ?_
                                    rotate_left
                                    · intro w'
                                      go_simp
                                      with_reducible rfl
                                    rotate_left
                                    · simp only [Act.put, List.setIfInBounds_toArray, List.set_cons_zero, List.set_cons_succ, i64_w, i32_w]
                                      rfl
                                    refine pure_ (i := 33) (N := some 90) (v := ?_) (a' := ?_) #[true, true, true, true, true, true, true, true, true, true, true, true, true, true, true, true, true, true, true, true, true, true, true, true, true, true, true, true, true, true, true, true, true, true] rfl rfl (any_of HT_.out (by kernel_rfl)) (fun _ _ _ h => h) (Or.inl ⟨by rfl, ?_⟩) ?_ ?_
                                    rotate_left
                                    · intro w'
                                      go_simp
                                      with_reducible rfl
                                    rotate_left
                                    · simp only [Act.put, List.setIfInBounds_toArray, List.set_cons_zero, List.set_cons_succ, i64_w, i32_w]
                                      rfl
                                    refine done_ (done_of HT_.out (by kernel_rfl)) ?_
                                    have hcz45_0 : w43.cell? ⟨gb351, 0, none⟩ = some (.slice (some ad352) t347.length co17) := (blk_cell BK351.out 0).trans rfl
                                    have hcz45_1 : w43.cell? ⟨gb351, 1, none⟩ = some (.int .i64 t350) := (blk_cell BK351.out 1).trans rfl
                                    have hfz45_0 := blk_frozen BK351.out 0
                                    have hfz45_1 := blk_frozen BK351.out 1
                                    have p363 : 0 ≤ (x10_1 : Int) := of_decide_eq_true (by first | (with_reducible assumption) | assumption)
                                    have q363 : x10_1 < (t347.length : Int) := of_decide_eq_true (by first | (with_reducible assumption) | assumption)
                                    obtain ⟨ad363, e363, hx363_0⟩ := Kd.at_int (Kd.R_reads' HO_352000.out).2.2 x10_1 p363 q363
                                    obtain rfl : ad352 = ad363 := (by injection e363)
                                    replace p363 := eq_true p363
                                    replace q363 := eq_true q363
                                    have p41 : 0 ≤ ((rd t347 x10_1) : Int) := of_decide_eq_true (by first | (with_reducible assumption) | assumption)
                                    have q41 : ((rd t347 x10_1) : Int) < ((x9_1.length : Int) : Int) := of_decide_eq_true (by first | (with_reducible assumption) | assumption)
                                    obtain ⟨go41, co41, eo41, gb41, gl41, cl41, HG41⟩ := Kd.R_form HO_9.out (by omega)
                                    (first | cases eo41 | (injection eo41 with ea_ en_ ec_; (first | subst ea_ | (injection ea_ with ea_; subst ea_)); subst ec_; clear en_))
                                    have GB41 := Aside0.mk gb41
                                    have GG41 := Aside0.mk HG41
                                    clear gb41 gl41 HG41
                                    obtain ⟨hx41_0, hf41_0⟩ := Kd.R_celln false HO_9.out ((rd t347 x10_1) : Int) p41 q41
                                    replace p41 := eq_true p41
                                    replace q41 := eq_true q41
                                    obtain ⟨hy46_, hz46_⟩ := Kd.R_celln false HO_9.out ((rd t347 x10_1) : Int) (of_decide_eq_true (by first | (with_reducible assumption) | assumption)) (of_decide_eq_true (by first | (with_reducible assumption) | assumption))
                                    have HP46 := Kd.R_putg HO_9.out ((rd t347 x10_1) : Int) true
                                    try go_wp2_with (first | ((with_reducible refine gate_store (t := 4) (p := 97) rfl ?_); refine store_event (t := 4) (p := 97) (v := ?vo_w47) (w1 := (w43.setCell ⟨go41, ((rd t347 x10_1) : Int).toNat, none⟩ (.bool true))) ?hg ?ho ?hn ?hr ?_; (case ho => rfl); (case hg => rfl); (case hn => rfl); (case hr => first | (go_simp; done) | (go_simp; rfl)); intro w47 hw; have hg : w43.grownBy w47 (some go41) := (by rw [hw]; exact HP46.2); have hp_ : Kd.R Kd.bool 4 w47 w.heap.size (fun _ => True) (.slice (some ⟨go41, 0, none⟩) x9_1.length co44) y364 := (by rw [hw, Ny364.out]; exact HP46.1); clear HP46; have n0_ := Aside0.mk (hp_); have n1_ := Aside0.mk (Kd.R_over' (v := (.slice (some ⟨go41, 0, none⟩) x9_1.length co44)) (by (with_reducible repeat (first | apply Kd.R_alloc | apply Kd.R_drewN | apply Kd.R_drew)); exact HO_352000.out) (Kd.R_typed HO_9.out) (by decide) hg); have n2_ := Aside0.mk (blk_grown (g := gb351) (o := .cells #[.slice (some ad352) t347.length co17, .int .i64 t350] 55 (0, 0)) (by (with_reducible repeat (first | refine blk_drewN ?_ _ | refine blk_drew ?_ | refine blk_alloc ?_ _)); exact BK351.out) hg (Kd.R_ne HO_9.out BK351.out (by decide))); have n3_ := Aside0.mk ((by rw [hw]; exact below_set (HB.out) GB41.out : Below w.heap.size w w47)); clear HO_9; clear HO_352000; clear BK351; clear HB; have HO_9 := n0_; have HO_352000 := n1_; have BK351 := n2_; have HB := n3_; clear n0_ n1_ n2_ n3_; clear hg hw hp_))
                                    go_roundg k1
                                    case measure => have := HK1.out; omega
                                    case rel => exact ⟨(y364), (wrap64 (x10_1 + 1)), (by first | rfl | (simp; done) | (simp [*]; done)), H', ⟨by have := HK1.out; omega⟩, ⟨by (with_reducible repeat (first | apply Kd.R_alloc | apply Kd.R_drewN | apply Kd.R_drew)); exact HO_9.out⟩, ⟨by (with_reducible repeat (first | apply Kd.R_alloc | apply Kd.R_drewN | apply Kd.R_drew)); exact HO_352000.out⟩, ⟨by (with_reducible repeat (first | refine blk_drewN ?_ _ | refine blk_drew ?_ | refine blk_alloc ?_ _)); exact BK351.out⟩, ⟨by repeat (first | (with_reducible first | exact HB.out | apply below_alloc | apply pw_below_drewN | apply below_drew1 | refine below_set ?_ GE351.out) | exact HB.out)⟩⟩
                                  · rw [if_neg c40] at H
                                    exact absurd H (by simp)
                                · rw [if_neg c39] at H
                                  exact absurd H (by simp)
                        · rw [if_neg c22] at H
                          exact absurd H (by simp)
                      · rw [if_neg c21] at H
                        have c21b0 : decide (x10_1 < (t347.length : Int)) = false := decide_eq_false c21
                        clear c21
                        have H' := Aside0.mk H
                        clear H
                        have hcz48_0 : wr.cell? ⟨gb351, 0, none⟩ = some (.slice (some ad352) t347.length co17) := (blk_cell BK351.out 0).trans rfl
                        have hcz48_1 : wr.cell? ⟨gb351, 1, none⟩ = some (.int .i64 t350) := (blk_cell BK351.out 1).trans rfl
                        have hfz48_0 := blk_frozen BK351.out 0
                        have hfz48_1 := blk_frozen BK351.out 1
                        go_wp2
                        go_loopg [11] k1 (fun kq v11 w' => ∃ (x11_2 : Int), v11 = .int .i64 x11_2 ∧ Aside0 (plexuslaw23_BoundLexicode.l1 kq true (wrap64 (1 + (Int.tmod (wrap64 (a1)) (wrap64 (1 + (Int.tmod (wrap64 (a0)) 9)))))) x9_1 x11_2 t347 t350 = some r) ∧ Aside0 (kq ≤ k1) ∧ Aside0 (Kd.R Kd.bool 4 w' w.heap.size (fun _ => True) v355 x9_1) ∧ Aside0 (Kd.R (Kd.int .i64) 3 w' w.heap.size (fun _ => True) (.slice (some ad352) t347.length co17) t347) ∧ Aside0 (w'.heap[gb351]? = some (.cells #[(.slice (some ad352) t347.length co17), .int .i64 t350] 55 (0, 0))) ∧ Aside0 (Below w.heap.size w w'))
                        case atStart => exact ⟨(0), (by first | rfl | (simp; done) | (simp [*]; done)), H', ⟨Nat.le_refl _⟩, ⟨by (with_reducible repeat (first | apply Kd.R_alloc | apply Kd.R_drewN | apply Kd.R_drew)); exact HO_9.out⟩, ⟨by (with_reducible repeat (first | apply Kd.R_alloc | apply Kd.R_drewN | apply Kd.R_drew)); exact HO_352000.out⟩, ⟨by (with_reducible repeat (first | refine blk_drewN ?_ _ | refine blk_drew ?_ | refine blk_alloc ?_ _)); exact BK351.out⟩, ⟨by repeat (first | (with_reducible first | exact HB.out | apply below_alloc | apply pw_below_drewN | apply below_drew1 | refine below_set ?_ GE351.out) | exact HB.out)⟩⟩
                        case round =>
                          clear H'
                          try clear c2
                          try clear p2
                          try clear c3
                          try clear p3
                          try clear q3
                          try clear hx3
                          try clear hf3
                          try clear c4
                          try clear p4
                          try clear q4
                          try clear hx4
                          try clear hf4
                          try clear p6
                          try clear c21
                          try clear c21b0
                          try clear c22
                          try clear c25
                          try clear c25b0
                          try clear c27
                          try clear c28
                          try clear c30
                          try clear c31
                          try clear p32
                          try clear q32
                          try clear hx32
                          try clear hf32
                          try clear p35
                          try clear q35
                          try clear hx35
                          try clear p36
                          try clear q36
                          try clear hx36
                          try clear c39
                          try clear c39b0
                          try clear c40
                          try clear c40b0
                          try clear p41
                          try clear q41
                          try clear hx41
                          try clear hf41
                          try clear hcz36_0
                          try clear hcz36_1
                          try clear hcz42_0
                          try clear hcz42_1
                          try clear hcz45_0
                          try clear hcz45_1
                          try clear hcz48_0
                          try clear hcz48_1
                          try clear hfz36_0
                          try clear hfz36_1
                          try clear hfz42_0
                          try clear hfz42_1
                          try clear hfz45_0
                          try clear hfz45_1
                          try clear hfz48_0
                          try clear hfz48_1
                          try clear hx32_0
                          try clear hx357_0
                          try clear hx358_0
                          try clear hx361_0
                          try clear hx363_0
                          try clear hx41_0
                          try clear p32
                          try clear p357
                          try clear p358
                          try clear p361
                          try clear p363
                          try clear p41
                          try clear q32
                          try clear q357
                          try clear q358
                          try clear q361
                          try clear q363
                          try clear q41
                          obtain ⟨x11_2, rfl, HA, HK2, HO_9, HO_352000, BK351, HB⟩ := hrel
                          cases gk with
                          | zero => exact absurd HA.out (by simp [plexuslaw23_BoundLexicode.l1])
                          | succ k2 =>
                            have H := HA.out
                            clear HA
                            simp only [plexuslaw23_BoundLexicode.l1] at H
                            by_cases c49 : x11_2 < (t347.length : Int)
                            · rw [if_pos c49] at H
                              have c49b0 : decide (x11_2 < (t347.length : Int)) = true := decide_eq_true c49
                              clear c49
                              have H' := Aside0.mk H
                              clear H
                              have hcz50_0 : wr.cell? ⟨gb351, 0, none⟩ = some (.slice (some ad352) t347.length co17) := (blk_cell BK351.out 0).trans rfl
                              have hcz50_1 : wr.cell? ⟨gb351, 1, none⟩ = some (.int .i64 t350) := (blk_cell BK351.out 1).trans rfl
                              have hfz50_0 := blk_frozen BK351.out 0
                              have hfz50_1 := blk_frozen BK351.out 1
                              go_wp2
                              go_loopg [12] k2 (fun kq v12 w' => ∃ (x12_3 : Int), v12 = .int .i64 x12_3 ∧ Aside0 (plexuslaw23_BoundLexicode.l2 kq true (wrap64 (1 + (Int.tmod (wrap64 (a1)) (wrap64 (1 + (Int.tmod (wrap64 (a0)) 9)))))) x9_1 x11_2 x12_3 t347 t350 = some r) ∧ Aside0 (kq ≤ k2) ∧ Aside0 (Kd.R Kd.bool 4 w' w.heap.size (fun _ => True) v355 x9_1) ∧ Aside0 (Kd.R (Kd.int .i64) 3 w' w.heap.size (fun _ => True) (.slice (some ad352) t347.length co17) t347) ∧ Aside0 (w'.heap[gb351]? = some (.cells #[(.slice (some ad352) t347.length co17), .int .i64 t350] 55 (0, 0))) ∧ Aside0 (Below w.heap.size w w'))
                              case atStart => exact ⟨(0), (by first | rfl | (simp; done) | (simp [*]; done)), H', ⟨Nat.le_refl _⟩, ⟨by (with_reducible repeat (first | apply Kd.R_alloc | apply Kd.R_drewN | apply Kd.R_drew)); exact HO_9.out⟩, ⟨by (with_reducible repeat (first | apply Kd.R_alloc | apply Kd.R_drewN | apply Kd.R_drew)); exact HO_352000.out⟩, ⟨by (with_reducible repeat (first | refine blk_drewN ?_ _ | refine blk_drew ?_ | refine blk_alloc ?_ _)); exact BK351.out⟩, ⟨by repeat (first | (with_reducible first | exact HB.out | apply below_alloc | apply pw_below_drewN | apply below_drew1 | refine below_set ?_ GE351.out) | exact HB.out)⟩⟩
                              case round =>
                                clear H'
                                try clear c2
                                try clear p2
                                try clear c3
                                try clear p3
                                try clear q3
                                try clear hx3
                                try clear hf3
                                try clear c4
                                try clear p4
                                try clear q4
                                try clear hx4
                                try clear hf4
                                try clear p6
                                try clear c21
                                try clear c21b0
                                try clear c22
                                try clear c25
                                try clear c25b0
                                try clear c27
                                try clear c28
                                try clear c30
                                try clear c31
                                try clear p32
                                try clear q32
                                try clear hx32
                                try clear hf32
                                try clear p35
                                try clear q35
                                try clear hx35
                                try clear p36
                                try clear q36
                                try clear hx36
                                try clear c39
                                try clear c39b0
                                try clear c40
                                try clear c40b0
                                try clear p41
                                try clear q41
                                try clear hx41
                                try clear hf41
                                try clear c49
                                try clear c49b0
                                try clear hcz36_0
                                try clear hcz36_1
                                try clear hcz42_0
                                try clear hcz42_1
                                try clear hcz45_0
                                try clear hcz45_1
                                try clear hcz48_0
                                try clear hcz48_1
                                try clear hcz50_0
                                try clear hcz50_1
                                try clear hfz36_0
                                try clear hfz36_1
                                try clear hfz42_0
                                try clear hfz42_1
                                try clear hfz45_0
                                try clear hfz45_1
                                try clear hfz48_0
                                try clear hfz48_1
                                try clear hfz50_0
                                try clear hfz50_1
                                try clear hx32_0
                                try clear hx357_0
                                try clear hx358_0
                                try clear hx361_0
                                try clear hx363_0
                                try clear hx41_0
                                try clear p2
                                try clear p3
                                try clear p32
                                try clear p35
                                try clear p357
                                try clear p358
                                try clear p36
                                try clear p361
                                try clear p363
                                try clear p4
                                try clear p41
                                try clear p6
                                try clear q3
                                try clear q32
                                try clear q35
                                try clear q357
                                try clear q358
                                try clear q36
                                try clear q361
                                try clear q363
                                try clear q4
                                try clear q41
                                obtain ⟨x12_3, rfl, HA, HK3, HO_9, HO_352000, BK351, HB⟩ := hrel
                                cases gk with
                                | zero => exact absurd HA.out (by simp [plexuslaw23_BoundLexicode.l2])
                                | succ k3 =>
                                  have H := HA.out
                                  clear HA
                                  simp only [plexuslaw23_BoundLexicode.l2] at H
                                  by_cases c51 : x12_3 < x11_2
                                  · rw [if_pos c51] at H
                                    have c51b0 : decide (x12_3 < x11_2) = true := decide_eq_true c51
                                    clear c51
                                    by_cases c52 : 0 ≤ x11_2
                                    · rw [if_pos c52] at H
                                      have c52b0 : decide (0 ≤ x11_2) = true := decide_eq_true c52
                                      clear c52
                                      by_cases c53 : x11_2 < (t347.length : Int)
                                      · rw [if_pos c53] at H
                                        have c53b0 : decide (x11_2 < (t347.length : Int)) = true := decide_eq_true c53
                                        clear c53
                                        by_cases c54 : 0 ≤ x12_3
                                        · rw [if_pos c54] at H
                                          have c54b0 : decide (0 ≤ x12_3) = true := decide_eq_true c54
                                          clear c54
                                          by_cases c55 : x12_3 < (t347.length : Int)
                                          · rw [if_pos c55] at H
                                            have c55b0 : decide (x12_3 < (t347.length : Int)) = true := decide_eq_true c55
                                            clear c55
                                            replace H := Option.bind_eq_some_iff.mp H
                                            obtain ⟨t367, A560, H⟩ := H
                                            replace H : (if t367 < (wrap64 (1 + (Int.tmod (wrap64 (a1)) (wrap64 (1 + (Int.tmod (wrap64 (a0)) 9)))))) then (none) else (if 0 ≤ (Go.bits .xor .i64 (rd t347 x11_2) (rd t347 x12_3)) then (if (Go.bits .xor .i64 (rd t347 x11_2) (rd t347 x12_3)) < (x9_1.length : Int) then (if (rdOf false x9_1 (Go.bits .xor .i64 (rd t347 x11_2) (rd t347 x12_3)) = true) then (plexuslaw23_BoundLexicode.l2 k3 true (wrap64 (1 + (Int.tmod (wrap64 (a1)) (wrap64 (1 + (Int.tmod (wrap64 (a0)) 9)))))) x9_1 x11_2 (wrap64 (x12_3 + 1)) t347 t350) else (none)) else (none)) else (none))) = some r := H
                                            have A56 := Aside0.mk A560
                                            clear A560
                                            by_cases c57 : t367 < (wrap64 (1 + (Int.tmod (wrap64 (a1)) (wrap64 (1 + (Int.tmod (wrap64 (a0)) 9))))))
                                            · rw [if_pos c57] at H
                                              have c57b0 : decide (t367 < (wrap64 (1 + (Int.tmod (wrap64 (a1)) (wrap64 (1 + (Int.tmod (wrap64 (a0)) 9))))))) = true := decide_eq_true c57
                                              clear c57
                                              exact absurd H (by simp)
                                            · rw [if_neg c57] at H
                                              have c57b0 : decide (t367 < (wrap64 (1 + (Int.tmod (wrap64 (a1)) (wrap64 (1 + (Int.tmod (wrap64 (a0)) 9))))))) = false := decide_eq_false c57
                                              clear c57
                                              by_cases c58 : 0 ≤ (Go.bits .xor .i64 (rd t347 x11_2) (rd t347 x12_3))
                                              · rw [if_pos c58] at H
                                                have c58b0 : decide (0 ≤ (Go.bits .xor .i64 (rd t347 x11_2) (rd t347 x12_3))) = true := decide_eq_true c58
                                                clear c58
                                                by_cases c59 : (Go.bits .xor .i64 (rd t347 x11_2) (rd t347 x12_3)) < (x9_1.length : Int)
                                                · rw [if_pos c59] at H
                                                  have c59b0 : decide ((Go.bits .xor .i64 (rd t347 x11_2) (rd t347 x12_3)) < (x9_1.length : Int)) = true := decide_eq_true c59
                                                  clear c59
                                                  obtain ⟨bq60, hbq60⟩ : ∃ b_ : Bool, b_ = (rdOf false x9_1 (Go.bits .xor .i64 (rd t347 x11_2) (rd t347 x12_3))) := ⟨_, rfl⟩
                                                  replace H : (if (bq60 = true) then (plexuslaw23_BoundLexicode.l2 k3 true (wrap64 (1 + (Int.tmod (wrap64 (a1)) (wrap64 (1 + (Int.tmod (wrap64 (a0)) 9)))))) x9_1 x11_2 (wrap64 (x12_3 + 1)) t347 t350) else (none)) = some r := by rw [← hbq60] at H; exact H
                                                  have Nbq60 := Aside0.mk hbq60
                                                  clear hbq60
                                                  by_cases c61 : (bq60 = true)
                                                  · subst c61
                                                    have H1 : (plexuslaw23_BoundLexicode.l2 k3 true (wrap64 (1 + (Int.tmod (wrap64 (a1)) (wrap64 (1 + (Int.tmod (wrap64 (a0)) 9)))))) x9_1 x11_2 (wrap64 (x12_3 + 1)) t347 t350) = some r := by rw [if_pos rfl] at H; exact H
                                                    clear H
                                                    have H := H1
                                                    clear H1
                                                    have H' := Aside0.mk H
                                                    clear H
                                                    try go_wp2
                                                    obtain ⟨Ao62, co62, eo62⟩ := Kd.R_slice HO_9.out
                                                    subst eo62
                                                    have n0_ := Aside0.mk (Kd.R_drew HO_9.out)
                                                    have n1_ := Aside0.mk (Kd.R_drew HO_352000.out)
                                                    have n2_ := Aside0.mk (blk_drew BK351.out)
                                                    have n3_ := Aside0.mk (below_drew1 HB.out)
                                                    clear HO_9
                                                    clear HO_352000
                                                    clear BK351
                                                    clear HB
                                                    have HO_9 := n0_
                                                    have HO_352000 := n1_
                                                    have BK351 := n2_
                                                    have HB := n3_
                                                    clear n0_ n1_ n2_ n3_
                                                    have p365 : 0 ≤ (x11_2 : Int) := of_decide_eq_true (by first | (with_reducible assumption) | assumption)
                                                    have q365 : x11_2 < (t347.length : Int) := of_decide_eq_true (by first | (with_reducible assumption) | assumption)
                                                    obtain ⟨ad365, e365, hx365_0⟩ := Kd.at_int (Kd.R_reads' HO_352000.out).2.2 x11_2 p365 q365
                                                    obtain rfl : ad352 = ad365 := (by injection e365)
                                                    replace p365 := eq_true p365
                                                    replace q365 := eq_true q365
                                                    have p366 : 0 ≤ (x12_3 : Int) := of_decide_eq_true (by first | (with_reducible assumption) | assumption)
                                                    have q366 : x12_3 < (t347.length : Int) := of_decide_eq_true (by first | (with_reducible assumption) | assumption)
                                                    obtain ⟨ad366, e366, hx366_0⟩ := Kd.at_int (Kd.R_reads' HO_352000.out).2.2 x12_3 p366 q366
                                                    obtain rfl : ad352 = ad366 := (by injection e366)
                                                    replace p366 := eq_true p366
                                                    replace q366 := eq_true q366
                                                    have p368 : 0 ≤ (x11_2 : Int) := of_decide_eq_true (by first | (with_reducible assumption) | assumption)
                                                    have q368 : x11_2 < (t347.length : Int) := of_decide_eq_true (by first | (with_reducible assumption) | assumption)
                                                    obtain ⟨ad368, e368, hx368_0⟩ := Kd.at_int (Kd.R_reads' HO_352000.out).2.2 x11_2 p368 q368
                                                    obtain rfl : ad352 = ad368 := (by injection e368)
                                                    replace p368 := eq_true p368
                                                    replace q368 := eq_true q368
                                                    have p369 : 0 ≤ (x12_3 : Int) := of_decide_eq_true (by first | (with_reducible assumption) | assumption)
                                                    have q369 : x12_3 < (t347.length : Int) := of_decide_eq_true (by first | (with_reducible assumption) | assumption)
                                                    obtain ⟨ad369, e369, hx369_0⟩ := Kd.at_int (Kd.R_reads' HO_352000.out).2.2 x12_3 p369 q369
                                                    obtain rfl : ad352 = ad369 := (by injection e369)
                                                    replace p369 := eq_true p369
                                                    replace q369 := eq_true q369
                                                    have p370 : 0 ≤ ((Go.bits .xor .i64 (rd t347 x11_2) (rd t347 x12_3)) : Int) := of_decide_eq_true (by first | (with_reducible assumption) | assumption)
                                                    have q370 : (Go.bits .xor .i64 (rd t347 x11_2) (rd t347 x12_3)) < (x9_1.length : Int) := of_decide_eq_true (by first | (with_reducible assumption) | assumption)
                                                    obtain ⟨ad370, e370, hx370_0⟩ := Kd.at_bool (Kd.R_reads' HO_9.out).2.2 (Go.bits .xor .i64 (rd t347 x11_2) (rd t347 x12_3)) p370 q370
                                                    (try rw [← Nbq60.out] at hx370_0)
                                                    cases e370
                                                    replace p370 := eq_true p370
                                                    replace q370 := eq_true q370
                                                    refine start_ (n := 31) (S := fun w' => w'.cell? ⟨gb351, 0, none⟩ = some (.slice (some ad352) t347.length co17) ∧ w'.cell? ⟨gb351, 1, none⟩ = some (.int .i64 t350) ∧ w'.cell? (ad352.add (x11_2).toNat) = some (.int .i64 (rd t347 x11_2)) ∧ w'.cell? (ad352.add (x12_3).toNat) = some (.int .i64 (rd t347 x12_3)) ∧ w'.cell? (ad352.add (x11_2).toNat) = some (.int .i64 (rd t347 x11_2)) ∧ w'.cell? (ad352.add (x12_3).toNat) = some (.int .i64 (rd t347 x12_3)) ∧ w'.cell? (ad370.add ((Go.bits .xor .i64 (rd t347 x11_2) (rd t347 x12_3))).toNat) = some (.bool true)) (ds := []) #[false, false, false, false, false, false, false, false, false, false, false, false, false, false, false, false, false, false, false, false, false, false, false, false, false, false, false, false, false, false, false] (by kernel_rfl) rfl rfl ⟨(blk_cell BK351.out 0).trans rfl, (blk_cell BK351.out 1).trans rfl, hx365_0, hx366_0, hx368_0, hx369_0, hx370_0⟩ (fun hHeld => ?_); refine with_tabW plexuslaw23_BoundLexicode.tab22 plexuslaw23_BoundLexicode.bits22 (fun HT_ HW_ => ?_)
                                                    generalize wr.drew = w63 at HO_9 HO_352000 BK351 HB hx365_0 hx366_0 hx368_0 hx369_0 hx370_0 hHeld ⊢
                                                    refine pure_ (i := 0) (N := some 110) (v := ?_) (a' := ?_) #[true, false, false, false, false, false, false, false, false, false, false, false, false, false, false, false, false, false, false, false, false, false, false, false, false, false, false, false, false, false, false] rfl rfl (any_of HT_.out (by kernel_rfl)) (fun _ _ _ h => h) (Or.inl ⟨by rfl, ?_⟩) ?_ ?_
                                                    rotate_left
                                                    · intro w'
                                                      go_simp
                                                      with_reducible rfl
                                                    rotate_left
                                                    · simp only [Act.put, List.setIfInBounds_toArray, List.set_cons_zero, List.set_cons_succ, i64_w, i32_w]
                                                      rfl
                                                    refine pure_ (i := 2) (N := some 112) (v := ?_) (a' := ?_) #[true, false, true, false, false, false, false, false, false, false, false, false, false, false, false, false, false, false, false, false, false, false, false, false, false, false, false, false, false, false, false] rfl rfl (any_of HT_.out (by kernel_rfl)) (fun _ _ _ h => h) (Or.inl ⟨by rfl, ?_⟩) ?_ ?_
                                                    rotate_left
                                                    · intro w'
                                                      go_simp
                                                      with_reducible rfl
                                                    rotate_left
                                                    · simp only [Act.put, List.setIfInBounds_toArray, List.set_cons_zero, List.set_cons_succ, i64_w, i32_w]
                                                      rfl
                                                    refine pure_ (i := 5) (N := some 115) (v := ?_) (a' := ?_) #[true, false, true, false, false, true, false, false, false, false, false, false, false, false, false, false, false, false, false, false, false, false, false, false, false, false, false, false, false, false, false] rfl rfl (any_of HT_.out (by kernel_rfl)) (fun _ _ _ h => h) (Or.inl ⟨by rfl, ?_⟩) ?_ ?_
                                                    rotate_left
                                                    · intro w'
                                                      go_simp
                                                      with_reducible rfl
                                                    rotate_left
                                                    · simp only [Act.put, List.setIfInBounds_toArray, List.set_cons_zero, List.set_cons_succ, i64_w, i32_w]
                                                      rfl
                                                    refine pure_ (i := 7) (N := some 117) (v := ?_) (a' := ?_) #[true, false, true, false, false, true, false, true, false, false, false, false, false, false, false, false, false, false, false, false, false, false, false, false, false, false, false, false, false, false, false] rfl rfl (any_of HT_.out (by kernel_rfl)) (fun _ _ _ h => h) (Or.inl ⟨by rfl, ?_⟩) ?_ ?_
                                                    rotate_left
                                                    · intro w'
                                                      go_simp
                                                      with_reducible rfl
                                                    rotate_left
                                                    · simp only [Act.put, List.setIfInBounds_toArray, List.set_cons_zero, List.set_cons_succ, i64_w, i32_w]
                                                      rfl
                                                    refine pure_ (i := 12) (N := some 122) (v := ?_) (a' := ?_) #[true, false, true, false, false, true, false, true, false, false, false, false, true, false, false, false, false, false, false, false, false, false, false, false, false, false, false, false, false, false, false] rfl rfl (any_of HT_.out (by kernel_rfl)) (fun _ _ _ h => h) (Or.inl ⟨by rfl, ?_⟩) ?_ ?_
                                                    rotate_left
                                                    · intro w'
                                                      go_simp
                                                      with_reducible rfl
                                                    rotate_left
                                                    · simp only [Act.put, List.setIfInBounds_toArray, List.set_cons_zero, List.set_cons_succ, i64_w, i32_w]
                                                      rfl
                                                    refine take_ (i := 1) (N := some 111) (v := ?_) (a' := ?_) #[true, true, true, false, false, true, false, true, false, false, false, false, true, false, false, false, false, false, false, false, false, false, false, false, false, false, false, false, false, false, false] rfl rfl (take_ofW HT_.out HW_.out (by kernel_rfl)) (fun _ _ _ h => h) (Or.inl ⟨by rfl, ?_⟩) hHeld ?_ ?_
                                                    rotate_left
                                                    · rintro w' ⟨s0, s1, s2, s3, s4, s5, s6⟩
                                                      go_simp
                                                      with_reducible rfl
                                                    rotate_left
                                                    · simp only [Act.put, List.setIfInBounds_toArray, List.set_cons_zero, List.set_cons_succ, i64_w, i32_w]
                                                      rfl
                                                    refine pure_ (i := 3) (N := some 113) (v := ?_) (a' := ?_) #[true, true, true, true, false, true, false, true, false, false, false, false, true, false, false, false, false, false, false, false, false, false, false, false, false, false, false, false, false, false, false] rfl rfl (any_of HT_.out (by kernel_rfl)) (fun _ _ _ h => h) (Or.inl ⟨by rfl, ?_⟩) ?_ ?_
                                                    rotate_left
                                                    · intro w'
                                                      go_simp
                                                      with_reducible rfl
                                                    rotate_left
                                                    · simp only [Act.put, List.setIfInBounds_toArray, List.set_cons_zero, List.set_cons_succ, i64_w, i32_w]
                                                      rfl
                                                    refine take_ (i := 4) (N := some 114) (v := ?_) (a' := ?_) #[true, true, true, true, true, true, false, true, false, false, false, false, true, false, false, false, false, false, false, false, false, false, false, false, false, false, false, false, false, false, false] rfl rfl (take_ofW HT_.out HW_.out (by kernel_rfl)) (fun _ _ _ h => h) (Or.inl ⟨by rfl, ?_⟩) hHeld ?_ ?_
                                                    rotate_left
                                                    · rintro w' ⟨s0, s1, s2, s3, s4, s5, s6⟩
                                                      go_simp
                                                      with_reducible rfl
                                                    rotate_left
                                                    · simp only [Act.put, List.setIfInBounds_toArray, List.set_cons_zero, List.set_cons_succ, i64_w, i32_w]
                                                      rfl
                                                    refine take_ (i := 6) (N := some 116) (v := ?_) (a' := ?_) #[true, true, true, true, true, true, true, true, false, false, false, false, true, false, false, false, false, false, false, false, false, false, false, false, false, false, false, false, false, false, false] rfl rfl (take_ofW HT_.out HW_.out (by kernel_rfl)) (fun _ _ _ h => h) (Or.inl ⟨by rfl, ?_⟩) hHeld ?_ ?_
                                                    rotate_left
                                                    · rintro w' ⟨s0, s1, s2, s3, s4, s5, s6⟩
                                                      go_simp
                                                      with_reducible rfl
                                                    rotate_left
                                                    · simp only [Act.put, List.setIfInBounds_toArray, List.set_cons_zero, List.set_cons_succ, i64_w, i32_w]
                                                      rfl
                                                    refine pure_ (i := 8) (N := some 118) (v := ?_) (a' := ?_) #[true, true, true, true, true, true, true, true, true, false, false, false, true, false, false, false, false, false, false, false, false, false, false, false, false, false, false, false, false, false, false] rfl rfl (any_of HT_.out (by kernel_rfl)) (fun _ _ _ h => h) (Or.inl ⟨by rfl, ?_⟩) ?_ ?_
                                                    rotate_left
                                                    · intro w'
                                                      go_simp
                                                      with_reducible rfl
                                                    rotate_left
                                                    · simp only [Act.put, List.setIfInBounds_toArray, List.set_cons_zero, List.set_cons_succ, i64_w, i32_w]
                                                      rfl
                                                    refine take_ (i := 9) (N := some 119) (v := ?_) (a' := ?_) #[true, true, true, true, true, true, true, true, true, true, false, false, true, false, false, false, false, false, false, false, false, false, false, false, false, false, false, false, false, false, false] rfl rfl (take_ofW HT_.out HW_.out (by kernel_rfl)) (fun _ _ _ h => h) (Or.inl ⟨by rfl, ?_⟩) hHeld ?_ ?_
                                                    rotate_left
                                                    · rintro w' ⟨s0, s1, s2, s3, s4, s5, s6⟩
                                                      go_simp
                                                      with_reducible rfl
                                                    rotate_left
                                                    · simp only [Act.put, List.setIfInBounds_toArray, List.set_cons_zero, List.set_cons_succ, i64_w, i32_w]
                                                      rfl
                                                    refine pure_ (i := 10) (N := some 120) (v := ?_) (a' := ?_) #[true, true, true, true, true, true, true, true, true, true, true, false, true, false, false, false, false, false, false, false, false, false, false, false, false, false, false, false, false, false, false] rfl rfl (any_of HT_.out (by kernel_rfl)) (fun _ _ _ h => h) (Or.inl ⟨by rfl, ?_⟩) ?_ ?_
                                                    rotate_left
                                                    · intro w'
                                                      go_simp
                                                      with_reducible rfl
                                                    rotate_left
                                                    · simp only [Act.put, List.setIfInBounds_toArray, List.set_cons_zero, List.set_cons_succ, i64_w, i32_w]
                                                      rfl
                                                    refine one_ (i := 11) (N := some 121) #[true, true, true, true, true, true, true, true, true, true, true, true, true, false, false, false, false, false, false, false, false, false, false, false, false, false, false, false, false, false, false] rfl rfl (one_of HT_.out (by kernel_rfl)) (by decide) (fun K hK => ?_)
                                                    refine goes_ Try.func53 (by kernel_rfl) rfl #[.int .i64 (Go.bits .xor .i64 (rd t347 x11_2) (rd t347 x12_3))] (by rfl) rfl rfl (by (try simp only [List.map_toArray, List.map_cons, List.map_nil]); first | done | rfl | (simp only [List.length_drop, List.length_take]; rfl)) ?_
                                                    with_reducible refine (plexusref23_Weight.calls k3 (Go.bits .xor .i64 (rd t347 x11_2) (rd t347 x12_3)) t367 _ A56.out).mono ?_
                                                    rintro e w' ⟨rfl, ⟨nd, rfl⟩⟩
                                                    refine ⟨_, rfl, ?_⟩
                                                    refine hK.out _ _ ⟨(blk_cell BK351.out 0).trans rfl, (blk_cell BK351.out 1).trans rfl, hHeld.2.2.1, hHeld.2.2.2.1, hHeld.2.2.2.2.1, hHeld.2.2.2.2.2.1, hHeld.2.2.2.2.2.2⟩ (fun hHeld => ?_)
                                                    clear hK K
                                                    refine norm_ (a' := ?_) ?_ ?_
                                                    rotate_left
                                                    · show Act.put _ (some 121) _ = _
                                                      simp only [Act.put, List.setIfInBounds_toArray, List.set_cons_zero, List.set_cons_succ, i64_w, i32_w]
                                                      rfl
                                                    refine pure_ (i := 13) (N := some 123) (v := ?_) (a' := ?_) #[true, true, true, true, true, true, true, true, true, true, true, true, true, true, false, false, false, false, false, false, false, false, false, false, false, false, false, false, false, false, false] rfl rfl (any_of HT_.out (by kernel_rfl)) (fun _ _ _ h => h) (Or.inl ⟨by rfl, ?_⟩) ?_ ?_
                                                    rotate_left
                                                    · intro w'
                                                      go_simp
                                                      with_reducible rfl
                                                    rotate_left
                                                    · simp only [Act.put, List.setIfInBounds_toArray, List.set_cons_zero, List.set_cons_succ, i64_w, i32_w]
                                                      rfl
                                                    refine pure_ (i := 14) (N := some 124) (v := ?_) (a' := ?_) #[true, true, true, true, true, true, true, true, true, true, true, true, true, true, true, false, false, false, false, false, false, false, false, false, false, false, false, false, false, false, false] rfl rfl (any_of HT_.out (by kernel_rfl)) (fun _ _ _ h => h) (Or.inl ⟨by rfl, ?_⟩) ?_ ?_
                                                    rotate_left
                                                    · intro w'
                                                      go_simp
                                                      with_reducible rfl
                                                    rotate_left
                                                    · simp only [Act.put, List.setIfInBounds_toArray, List.set_cons_zero, List.set_cons_succ, i64_w, i32_w]
                                                      rfl
                                                    refine pure_ (i := 15) (N := some 125) (v := ?_) (a' := ?_) #[true, true, true, true, true, true, true, true, true, true, true, true, true, true, true, true, false, false, false, false, false, false, false, false, false, false, false, false, false, false, false] rfl rfl (any_of HT_.out (by kernel_rfl)) (fun _ _ _ h => h) (Or.inl ⟨by rfl, ?_⟩) ?_ ?_
                                                    rotate_left
                                                    · intro w'
                                                      go_simp
                                                      with_reducible rfl
                                                    rotate_left
                                                    · simp only [Act.put, List.setIfInBounds_toArray, List.set_cons_zero, List.set_cons_succ, i64_w, i32_w]
                                                      rfl
                                                    refine pure_ (i := 16) (N := some 126) (v := ?_) (a' := ?_) #[true, true, true, true, true, true, true, true, true, true, true, true, true, true, true, true, true, false, false, false, false, false, false, false, false, false, false, false, false, false, false] rfl rfl (any_of HT_.out (by kernel_rfl)) (fun _ _ _ h => h) (Or.inl ⟨by rfl, ?_⟩) ?_ ?_
                                                    rotate_left
                                                    · intro w'
                                                      go_simp
                                                      with_reducible rfl
                                                    rotate_left
                                                    · simp only [Act.put, List.setIfInBounds_toArray, List.set_cons_zero, List.set_cons_succ, i64_w, i32_w]
                                                      rfl
                                                    refine pure_ (i := 18) (N := some 128) (v := ?_) (a' := ?_) #[true, true, true, true, true, true, true, true, true, true, true, true, true, true, true, true, true, false, true, false, false, false, false, false, false, false, false, false, false, false, false] rfl rfl (any_of HT_.out (by kernel_rfl)) (fun _ _ _ h => h) (Or.inl ⟨by rfl, ?_⟩) ?_ ?_
                                                    rotate_left
                                                    · intro w'
                                                      go_simp
                                                      with_reducible rfl
                                                    rotate_left
                                                    · simp only [Act.put, List.setIfInBounds_toArray, List.set_cons_zero, List.set_cons_succ, i64_w, i32_w]
                                                      rfl
                                                    refine pure_ (i := 21) (N := some 131) (v := ?_) (a' := ?_) #[true, true, true, true, true, true, true, true, true, true, true, true, true, true, true, true, true, false, true, false, false, true, false, false, false, false, false, false, false, false, false] rfl rfl (any_of HT_.out (by kernel_rfl)) (fun _ _ _ h => h) (Or.inl ⟨by rfl, ?_⟩) ?_ ?_
                                                    rotate_left
                                                    · intro w'
                                                      go_simp
                                                      with_reducible rfl
                                                    rotate_left
                                                    · simp only [Act.put, List.setIfInBounds_toArray, List.set_cons_zero, List.set_cons_succ, i64_w, i32_w]
                                                      rfl
                                                    refine pure_ (i := 23) (N := some 133) (v := ?_) (a' := ?_) #[true, true, true, true, true, true, true, true, true, true, true, true, true, true, true, true, true, false, true, false, false, true, false, true, false, false, false, false, false, false, false] rfl rfl (any_of HT_.out (by kernel_rfl)) (fun _ _ _ h => h) (Or.inl ⟨by rfl, ?_⟩) ?_ ?_
                                                    rotate_left
                                                    · intro w'
                                                      go_simp
                                                      with_reducible rfl
                                                    rotate_left
                                                    · simp only [Act.put, List.setIfInBounds_toArray, List.set_cons_zero, List.set_cons_succ, i64_w, i32_w]
                                                      rfl
                                                    refine take_ (i := 17) (N := some 127) (v := ?_) (a' := ?_) #[true, true, true, true, true, true, true, true, true, true, true, true, true, true, true, true, true, true, true, false, false, true, false, true, false, false, false, false, false, false, false] rfl rfl (take_ofW HT_.out HW_.out (by kernel_rfl)) (fun _ _ _ h => h) (Or.inl ⟨by rfl, ?_⟩) hHeld ?_ ?_
                                                    rotate_left
                                                    · rintro w' ⟨s0, s1, s2, s3, s4, s5, s6⟩
                                                      go_simp
                                                      with_reducible rfl
                                                    rotate_left
                                                    · simp only [Act.put, List.setIfInBounds_toArray, List.set_cons_zero, List.set_cons_succ, i64_w, i32_w]
                                                      rfl
                                                    refine pure_ (i := 19) (N := some 129) (v := ?_) (a' := ?_) #[true, true, true, true, true, true, true, true, true, true, true, true, true, true, true, true, true, true, true, true, false, true, false, true, false, false, false, false, false, false, false] rfl rfl (any_of HT_.out (by kernel_rfl)) (fun _ _ _ h => h) (Or.inl ⟨by rfl, ?_⟩) ?_ ?_
                                                    rotate_left
                                                    · intro w'
                                                      go_simp
                                                      with_reducible rfl
                                                    rotate_left
                                                    · simp only [Act.put, List.setIfInBounds_toArray, List.set_cons_zero, List.set_cons_succ, i64_w, i32_w]
                                                      rfl
                                                    refine take_ (i := 20) (N := some 130) (v := ?_) (a' := ?_) #[true, true, true, true, true, true, true, true, true, true, true, true, true, true, true, true, true, true, true, true, true, true, false, true, false, false, false, false, false, false, false] rfl rfl (take_ofW HT_.out HW_.out (by kernel_rfl)) (fun _ _ _ h => h) (Or.inl ⟨by rfl, ?_⟩) hHeld ?_ ?_
                                                    rotate_left
                                                    · rintro w' ⟨s0, s1, s2, s3, s4, s5, s6⟩
                                                      go_simp
                                                      with_reducible rfl
                                                    rotate_left
                                                    · simp only [Act.put, List.setIfInBounds_toArray, List.set_cons_zero, List.set_cons_succ, i64_w, i32_w]
                                                      rfl
                                                    refine take_ (i := 22) (N := some 132) (v := ?_) (a' := ?_) #[true, true, true, true, true, true, true, true, true, true, true, true, true, true, true, true, true, true, true, true, true, true, true, true, false, false, false, false, false, false, false] rfl rfl (take_ofW HT_.out HW_.out (by kernel_rfl)) (fun _ _ _ h => h) (Or.inl ⟨by rfl, ?_⟩) hHeld ?_ ?_
                                                    rotate_left
                                                    · rintro w' ⟨s0, s1, s2, s3, s4, s5, s6⟩
                                                      go_simp
                                                      with_reducible rfl
                                                    rotate_left
                                                    · simp only [Act.put, List.setIfInBounds_toArray, List.set_cons_zero, List.set_cons_succ, i64_w, i32_w]
                                                      rfl
                                                    refine pure_ (i := 24) (N := some 134) (v := ?_) (a' := ?_) #[true, true, true, true, true, true, true, true, true, true, true, true, true, true, true, true, true, true, true, true, true, true, true, true, true, false, false, false, false, false, false] rfl rfl (any_of HT_.out (by kernel_rfl)) (fun _ _ _ h => h) (Or.inl ⟨by rfl, ?_⟩) ?_ ?_
                                                    rotate_left
                                                    · intro w'
                                                      go_simp
                                                      with_reducible rfl
                                                    rotate_left
                                                    · simp only [Act.put, List.setIfInBounds_toArray, List.set_cons_zero, List.set_cons_succ, i64_w, i32_w]
                                                      rfl
                                                    refine take_ (i := 25) (N := some 135) (v := ?_) (a' := ?_) #[true, true, true, true, true, true, true, true, true, true, true, true, true, true, true, true, true, true, true, true, true, true, true, true, true, true, false, false, false, false, false] rfl rfl (take_ofW HT_.out HW_.out (by kernel_rfl)) (fun _ _ _ h => h) (Or.inl ⟨by rfl, ?_⟩) hHeld ?_ ?_
                                                    rotate_left
                                                    · rintro w' ⟨s0, s1, s2, s3, s4, s5, s6⟩
                                                      go_simp
                                                      with_reducible rfl
                                                    rotate_left
                                                    · simp only [Act.put, List.setIfInBounds_toArray, List.set_cons_zero, List.set_cons_succ, i64_w, i32_w]
                                                      rfl
                                                    refine pure_ (i := 26) (N := some 136) (v := ?_) (a' := ?_) #[true, true, true, true, true, true, true, true, true, true, true, true, true, true, true, true, true, true, true, true, true, true, true, true, true, true, true, false, false, false, false] rfl rfl (any_of HT_.out (by kernel_rfl)) (fun _ _ _ h => h) (Or.inl ⟨by rfl, ?_⟩) ?_ ?_
                                                    rotate_left
                                                    · intro w'
                                                      go_simp
                                                      with_reducible rfl
                                                    rotate_left
                                                    · simp only [Act.put, List.setIfInBounds_toArray, List.set_cons_zero, List.set_cons_succ, i64_w, i32_w]
                                                      rfl
                                                    refine pure_ (i := 27) (N := some 137) (v := ?_) (a' := ?_) #[true, true, true, true, true, true, true, true, true, true, true, true, true, true, true, true, true, true, true, true, true, true, true, true, true, true, true, true, false, false, false] rfl rfl (any_of HT_.out (by kernel_rfl)) (fun _ _ _ h => h) (Or.inl ⟨by rfl, ?_⟩) ?_ ?_
                                                    rotate_left
                                                    · intro w'
                                                      go_simp
                                                      with_reducible rfl
                                                    rotate_left
                                                    · simp only [Act.put, List.setIfInBounds_toArray, List.set_cons_zero, List.set_cons_succ, i64_w, i32_w]
                                                      rfl
                                                    refine take_ (i := 28) (N := some 138) (v := ?_) (a' := ?_) #[true, true, true, true, true, true, true, true, true, true, true, true, true, true, true, true, true, true, true, true, true, true, true, true, true, true, true, true, true, false, false] rfl rfl (take_ofW HT_.out HW_.out (by kernel_rfl)) (fun _ _ _ h => h) (Or.inl ⟨by rfl, ?_⟩) hHeld ?_ ?_
                                                    rotate_left
                                                    · rintro w' ⟨s0, s1, s2, s3, s4, s5, s6⟩
                                                      go_simp
                                                      with_reducible rfl
                                                    rotate_left
                                                    · simp only [Act.put, List.setIfInBounds_toArray, List.set_cons_zero, List.set_cons_succ, i64_w, i32_w]
                                                      rfl
                                                    refine pure_ (i := 29) (N := some 139) (v := ?_) (a' := ?_) #[true, true, true, true, true, true, true, true, true, true, true, true, true, true, true, true, true, true, true, true, true, true, true, true, true, true, true, true, true, true, false] rfl rfl (any_of HT_.out (by kernel_rfl)) (fun _ _ _ h => h) (Or.inl ⟨by rfl, ?_⟩) ?_ ?_
                                                    rotate_left
                                                    · intro w'
                                                      go_simp
                                                      with_reducible rfl
                                                    rotate_left
                                                    · simp only [Act.put, List.setIfInBounds_toArray, List.set_cons_zero, List.set_cons_succ, i64_w, i32_w]
                                                      rfl
                                                    refine pure_ (i := 30) (N := some 140) (v := ?_) (a' := ?_) #[true, true, true, true, true, true, true, true, true, true, true, true, true, true, true, true, true, true, true, true, true, true, true, true, true, true, true, true, true, true, true] rfl rfl (any_of HT_.out (by kernel_rfl)) (fun _ _ _ h => h) (Or.inl ⟨by rfl, ?_⟩) ?_ ?_
                                                    rotate_left
                                                    · intro w'
                                                      go_simp
                                                      with_reducible rfl
                                                    rotate_left
                                                    · simp only [Act.put, List.setIfInBounds_toArray, List.set_cons_zero, List.set_cons_succ, i64_w, i32_w]
                                                      rfl
                                                    refine done_ (done_of HT_.out (by kernel_rfl)) ?_
                                                    try go_wp2
                                                    go_roundg k3
                                                    case measure => have := HK1.out; have := HK2.out; have := HK3.out; omega
                                                    case rel => exact ⟨(wrap64 (x12_3 + 1)), (by first | rfl | (simp; done) | (simp [*]; done)), H', ⟨by have := HK1.out; have := HK2.out; have := HK3.out; omega⟩, ⟨by (with_reducible repeat (first | apply Kd.R_alloc | apply Kd.R_drewN | apply Kd.R_drew)); exact HO_9.out⟩, ⟨by (with_reducible repeat (first | apply Kd.R_alloc | apply Kd.R_drewN | apply Kd.R_drew)); exact HO_352000.out⟩, ⟨by (with_reducible repeat (first | refine blk_drewN ?_ _ | refine blk_drew ?_ | refine blk_alloc ?_ _)); exact BK351.out⟩, ⟨by repeat (first | (with_reducible first | exact HB.out | apply below_alloc | apply pw_below_drewN | apply below_drew1 | refine below_set ?_ GE351.out) | exact HB.out)⟩⟩
                                                  · replace c61 := Bool.eq_false_iff.mpr c61
                                                    subst c61
                                                    have H1 : (none) = some r := by rw [if_neg (show ¬ (false = true) by decide)] at H; exact H
                                                    clear H
                                                    have H := H1
                                                    clear H1
                                                    exact absurd H (by simp)
                                                · rw [if_neg c59] at H
                                                  exact absurd H (by simp)
                                              · rw [if_neg c58] at H
                                                exact absurd H (by simp)
                                          · rw [if_neg c55] at H
                                            exact absurd H (by simp)
                                        · rw [if_neg c54] at H
                                          exact absurd H (by simp)
                                      · rw [if_neg c53] at H
                                        exact absurd H (by simp)
                                    · rw [if_neg c52] at H
                                      exact absurd H (by simp)
                                  · rw [if_neg c51] at H
                                    have c51b0 : decide (x12_3 < x11_2) = false := decide_eq_false c51
                                    clear c51
                                    have H' := Aside0.mk H
                                    clear H
                                    go_wp2
                                    go_roundg k3
                                    case measure => have := HK1.out; have := HK2.out; have := HK3.out; omega
                                    case rel => exact ⟨(wrap64 (x11_2 + 1)), (by first | rfl | (simp; done) | (simp [*]; done)), H', ⟨by have := HK1.out; have := HK2.out; have := HK3.out; omega⟩, ⟨by (with_reducible repeat (first | apply Kd.R_alloc | apply Kd.R_drewN | apply Kd.R_drew)); exact HO_9.out⟩, ⟨by (with_reducible repeat (first | apply Kd.R_alloc | apply Kd.R_drewN | apply Kd.R_drew)); exact HO_352000.out⟩, ⟨by (with_reducible repeat (first | refine blk_drewN ?_ _ | refine blk_drew ?_ | refine blk_alloc ?_ _)); exact BK351.out⟩, ⟨by repeat (first | (with_reducible first | exact HB.out | apply below_alloc | apply pw_below_drewN | apply below_drew1 | refine below_set ?_ GE351.out) | exact HB.out)⟩⟩
                            · rw [if_neg c49] at H
                              have c49b0 : decide (x11_2 < (t347.length : Int)) = false := decide_eq_false c49
                              clear c49
                              have H' := Aside0.mk H
                              clear H
                              have hcz64_0 : wr.cell? ⟨gb351, 0, none⟩ = some (.slice (some ad352) t347.length co17) := (blk_cell BK351.out 0).trans rfl
                              have hcz64_1 : wr.cell? ⟨gb351, 1, none⟩ = some (.int .i64 t350) := (blk_cell BK351.out 1).trans rfl
                              have hfz64_0 := blk_frozen BK351.out 0
                              have hfz64_1 := blk_frozen BK351.out 1
                              go_wp2
                              go_loopg [13] k2 (fun kq v13 w' => ∃ (x13_3 : Int), v13 = .int .i64 x13_3 ∧ Aside0 (plexuslaw23_BoundLexicode.l3 kq true (wrap64 (1 + (Int.tmod (wrap64 (a1)) (wrap64 (1 + (Int.tmod (wrap64 (a0)) 9)))))) x9_1 x13_3 t347 t350 = some r) ∧ Aside0 (kq ≤ k2) ∧ Aside0 (Kd.R Kd.bool 4 w' w.heap.size (fun _ => True) v355 x9_1) ∧ Aside0 (Kd.R (Kd.int .i64) 3 w' w.heap.size (fun _ => True) (.slice (some ad352) t347.length co17) t347) ∧ Aside0 (w'.heap[gb351]? = some (.cells #[(.slice (some ad352) t347.length co17), .int .i64 t350] 55 (0, 0))) ∧ Aside0 (Below w.heap.size w w'))
                              case atStart => exact ⟨(0), (by first | rfl | (simp; done) | (simp [*]; done)), H', ⟨Nat.le_refl _⟩, ⟨by (with_reducible repeat (first | apply Kd.R_alloc | apply Kd.R_drewN | apply Kd.R_drew)); exact HO_9.out⟩, ⟨by (with_reducible repeat (first | apply Kd.R_alloc | apply Kd.R_drewN | apply Kd.R_drew)); exact HO_352000.out⟩, ⟨by (with_reducible repeat (first | refine blk_drewN ?_ _ | refine blk_drew ?_ | refine blk_alloc ?_ _)); exact BK351.out⟩, ⟨by repeat (first | (with_reducible first | exact HB.out | apply below_alloc | apply pw_below_drewN | apply below_drew1 | refine below_set ?_ GE351.out) | exact HB.out)⟩⟩
                              case round =>
                                clear H'
                                try clear c2
                                try clear p2
                                try clear c3
                                try clear p3
                                try clear q3
                                try clear hx3
                                try clear hf3
                                try clear c4
                                try clear p4
                                try clear q4
                                try clear hx4
                                try clear hf4
                                try clear c5
                                try clear c6
                                try clear p6
                                try clear q6
                                try clear c21
                                try clear c21b0
                                try clear c22
                                try clear c25
                                try clear c25b0
                                try clear c27
                                try clear c28
                                try clear c30
                                try clear c31
                                try clear p32
                                try clear q32
                                try clear hx32
                                try clear hf32
                                try clear p35
                                try clear q35
                                try clear hx35
                                try clear p36
                                try clear q36
                                try clear hx36
                                try clear p37
                                try clear q37
                                try clear hx37
                                try clear c39
                                try clear c39b0
                                try clear c40
                                try clear c40b0
                                try clear p41
                                try clear q41
                                try clear hx41
                                try clear hf41
                                try clear c49
                                try clear c49b0
                                try clear c51
                                try clear c51b0
                                try clear c52
                                try clear c52b0
                                try clear c53
                                try clear c53b0
                                try clear c54
                                try clear c54b0
                                try clear c55
                                try clear c55b0
                                try clear c57
                                try clear c57b0
                                try clear c58
                                try clear c58b0
                                try clear c59
                                try clear c59b0
                                try clear q60
                                try clear c61
                                try clear p64
                                try clear hcz36_0
                                try clear hcz36_1
                                try clear hcz42_0
                                try clear hcz42_1
                                try clear hcz45_0
                                try clear hcz45_1
                                try clear hcz48_0
                                try clear hcz48_1
                                try clear hcz50_0
                                try clear hcz50_1
                                try clear hcz64_0
                                try clear hcz64_1
                                try clear hfz36_0
                                try clear hfz36_1
                                try clear hfz42_0
                                try clear hfz42_1
                                try clear hfz45_0
                                try clear hfz45_1
                                try clear hfz48_0
                                try clear hfz48_1
                                try clear hfz50_0
                                try clear hfz50_1
                                try clear hfz64_0
                                try clear hfz64_1
                                try clear hx32_0
                                try clear hx357_0
                                try clear hx358_0
                                try clear hx361_0
                                try clear hx363_0
                                try clear hx365_0
                                try clear hx366_0
                                try clear hx368_0
                                try clear hx369_0
                                try clear hx370_0
                                try clear hx41_0
                                try clear p2
                                try clear p3
                                try clear p32
                                try clear p35
                                try clear p357
                                try clear p358
                                try clear p36
                                try clear p361
                                try clear p363
                                try clear p365
                                try clear p366
                                try clear p368
                                try clear p369
                                try clear p370
                                try clear p4
                                try clear p41
                                try clear p6
                                try clear q3
                                try clear q32
                                try clear q35
                                try clear q357
                                try clear q358
                                try clear q36
                                try clear q361
                                try clear q363
                                try clear q365
                                try clear q366
                                try clear q368
                                try clear q369
                                try clear q370
                                try clear q4
                                try clear q41
                                obtain ⟨x13_3, rfl, HA, HK3, HO_9, HO_352000, BK351, HB⟩ := hrel
                                cases gk with
                                | zero => exact absurd HA.out (by simp [plexuslaw23_BoundLexicode.l3])
                                | succ k3 =>
                                  have H := HA.out
                                  clear HA
                                  simp only [plexuslaw23_BoundLexicode.l3] at H
                                  by_cases c65 : x13_3 < (x9_1.length : Int)
                                  · rw [if_pos c65] at H
                                    have c65b0 : decide (x13_3 < (x9_1.length : Int)) = true := decide_eq_true c65
                                    clear c65
                                    have H' := Aside0.mk H
                                    clear H
                                    obtain ⟨Ao66, co66, eo66⟩ := Kd.R_slice HO_9.out
                                    subst eo66
                                    go_wp2
                                    go_loopg [14, 15] k3 (fun kq v14 v15 w' => ∃ (x14_4 : Bool) (x15_4 : Int), v14 = .bool x14_4 ∧ v15 = .int .i64 x15_4 ∧ Aside0 (plexuslaw23_BoundLexicode.l4 kq true (wrap64 (1 + (Int.tmod (wrap64 (a1)) (wrap64 (1 + (Int.tmod (wrap64 (a0)) 9)))))) x9_1 x13_3 x14_4 x15_4 t347 t350 = some r) ∧ Aside0 (kq ≤ k3) ∧ Aside0 (Kd.R Kd.bool 4 w' w.heap.size (fun _ => True) (.slice Ao66 x9_1.length co66) x9_1) ∧ Aside0 (Kd.R (Kd.int .i64) 3 w' w.heap.size (fun _ => True) (.slice (some ad352) t347.length co17) t347) ∧ Aside0 (w'.heap[gb351]? = some (.cells #[(.slice (some ad352) t347.length co17), .int .i64 t350] 55 (0, 0))) ∧ Aside0 (Below w.heap.size w w'))
                                    case atStart => exact ⟨(false), (0), (by first | rfl | (simp; done) | (simp [*]; done)), (by first | rfl | (simp; done) | (simp [*]; done)), H', ⟨Nat.le_refl _⟩, ⟨by (with_reducible repeat (first | apply Kd.R_alloc | apply Kd.R_drewN | apply Kd.R_drew)); exact HO_9.out⟩, ⟨by (with_reducible repeat (first | apply Kd.R_alloc | apply Kd.R_drewN | apply Kd.R_drew)); exact HO_352000.out⟩, ⟨by (with_reducible repeat (first | refine blk_drewN ?_ _ | refine blk_drew ?_ | refine blk_alloc ?_ _)); exact BK351.out⟩, ⟨by repeat (first | (with_reducible first | exact HB.out | apply below_alloc | apply pw_below_drewN | apply below_drew1 | refine below_set ?_ GE351.out) | exact HB.out)⟩⟩
                                    case round =>
                                      clear H'
                                      try clear c2
                                      try clear p2
                                      try clear c3
                                      try clear p3
                                      try clear q3
                                      try clear hx3
                                      try clear hf3
                                      try clear c4
                                      try clear p4
                                      try clear q4
                                      try clear hx4
                                      try clear hf4
                                      try clear c5
                                      try clear c6
                                      try clear p6
                                      try clear q6
                                      try clear c21
                                      try clear c21b0
                                      try clear c22
                                      try clear c25
                                      try clear c25b0
                                      try clear c27
                                      try clear c28
                                      try clear c30
                                      try clear c31
                                      try clear p32
                                      try clear q32
                                      try clear hx32
                                      try clear hf32
                                      try clear p35
                                      try clear q35
                                      try clear hx35
                                      try clear p36
                                      try clear q36
                                      try clear hx36
                                      try clear p37
                                      try clear q37
                                      try clear hx37
                                      try clear c39
                                      try clear c39b0
                                      try clear c40
                                      try clear c40b0
                                      try clear p41
                                      try clear q41
                                      try clear hx41
                                      try clear hf41
                                      try clear c49
                                      try clear c49b0
                                      try clear c51
                                      try clear c51b0
                                      try clear c52
                                      try clear c52b0
                                      try clear c53
                                      try clear c53b0
                                      try clear c54
                                      try clear c54b0
                                      try clear c55
                                      try clear c55b0
                                      try clear c57
                                      try clear c57b0
                                      try clear c58
                                      try clear c58b0
                                      try clear c59
                                      try clear c59b0
                                      try clear q60
                                      try clear c61
                                      try clear p64
                                      try clear c65
                                      try clear c65b0
                                      try clear hcz36_0
                                      try clear hcz36_1
                                      try clear hcz42_0
                                      try clear hcz42_1
                                      try clear hcz45_0
                                      try clear hcz45_1
                                      try clear hcz48_0
                                      try clear hcz48_1
                                      try clear hcz50_0
                                      try clear hcz50_1
                                      try clear hcz64_0
                                      try clear hcz64_1
                                      try clear hfz36_0
                                      try clear hfz36_1
                                      try clear hfz42_0
                                      try clear hfz42_1
                                      try clear hfz45_0
                                      try clear hfz45_1
                                      try clear hfz48_0
                                      try clear hfz48_1
                                      try clear hfz50_0
                                      try clear hfz50_1
                                      try clear hfz64_0
                                      try clear hfz64_1
                                      try clear hx32_0
                                      try clear hx357_0
                                      try clear hx358_0
                                      try clear hx361_0
                                      try clear hx363_0
                                      try clear hx365_0
                                      try clear hx366_0
                                      try clear hx368_0
                                      try clear hx369_0
                                      try clear hx370_0
                                      try clear hx41_0
                                      try clear p2
                                      try clear p3
                                      try clear p32
                                      try clear p35
                                      try clear p357
                                      try clear p358
                                      try clear p36
                                      try clear p361
                                      try clear p363
                                      try clear p365
                                      try clear p366
                                      try clear p368
                                      try clear p369
                                      try clear p37
                                      try clear p370
                                      try clear p4
                                      try clear p41
                                      try clear p6
                                      try clear p64
                                      try clear q3
                                      try clear q32
                                      try clear q35
                                      try clear q357
                                      try clear q358
                                      try clear q36
                                      try clear q361
                                      try clear q363
                                      try clear q365
                                      try clear q366
                                      try clear q368
                                      try clear q369
                                      try clear q37
                                      try clear q370
                                      try clear q4
                                      try clear q41
                                      try clear q6
                                      try clear q60
                                      obtain ⟨x14_4, x15_4, rfl, rfl, HA, HK4, HO_9, HO_352000, BK351, HB⟩ := hrel
                                      cases gk with
                                      | zero => exact absurd HA.out (by simp [plexuslaw23_BoundLexicode.l4])
                                      | succ k4 =>
                                        have H := HA.out
                                        clear HA
                                        simp only [plexuslaw23_BoundLexicode.l4] at H
                                        by_cases c67 : x15_4 < (t347.length : Int)
                                        · rw [if_pos c67] at H
                                          have c67b0 : decide (x15_4 < (t347.length : Int)) = true := decide_eq_true c67
                                          clear c67
                                          by_cases c68 : x14_4 = true
                                          · subst c68
                                            have H1 : (plexuslaw23_BoundLexicode.l3 k4 true (wrap64 (1 + (Int.tmod (wrap64 (a1)) (wrap64 (1 + (Int.tmod (wrap64 (a0)) 9)))))) x9_1 (wrap64 (x13_3 + 1)) t347 t350) = some r := by rw [if_pos rfl] at H; exact H
                                            clear H
                                            have H := H1
                                            clear H1
                                            have H' := Aside0.mk H
                                            clear H
                                            have hcz69_0 : wr.cell? ⟨gb351, 0, none⟩ = some (.slice (some ad352) t347.length co17) := (blk_cell BK351.out 0).trans rfl
                                            have hcz69_1 : wr.cell? ⟨gb351, 1, none⟩ = some (.int .i64 t350) := (blk_cell BK351.out 1).trans rfl
                                            have hfz69_0 := blk_frozen BK351.out 0
                                            have hfz69_1 := blk_frozen BK351.out 1
                                            go_wp2
                                            go_roundg k4
                                            case measure => have := HK1.out; have := HK2.out; have := HK3.out; have := HK4.out; omega
                                            case rel => exact ⟨(wrap64 (x13_3 + 1)), (by first | rfl | (simp; done) | (simp [*]; done)), H', ⟨by have := HK1.out; have := HK2.out; have := HK3.out; have := HK4.out; omega⟩, ⟨by (with_reducible repeat (first | apply Kd.R_alloc | apply Kd.R_drewN | apply Kd.R_drew)); exact HO_9.out⟩, ⟨by (with_reducible repeat (first | apply Kd.R_alloc | apply Kd.R_drewN | apply Kd.R_drew)); exact HO_352000.out⟩, ⟨by (with_reducible repeat (first | refine blk_drewN ?_ _ | refine blk_drew ?_ | refine blk_alloc ?_ _)); exact BK351.out⟩, ⟨by repeat (first | (with_reducible first | exact HB.out | apply below_alloc | apply pw_below_drewN | apply below_drew1 | refine below_set ?_ GE351.out) | exact HB.out)⟩⟩
                                          · replace c68 := Bool.eq_false_iff.mpr c68
                                            subst c68
                                            have H1 : (if 0 ≤ x15_4 then ((plexusref23_Weight.f k4 (Go.bits .xor .i64 (rd t347 x15_4) x13_3)).bind fun t372 => (plexuslaw23_BoundLexicode.l4 k4 true (wrap64 (1 + (Int.tmod (wrap64 (a1)) (wrap64 (1 + (Int.tmod (wrap64 (a0)) 9)))))) x9_1 x13_3 (decide (t372 < (wrap64 (1 + (Int.tmod (wrap64 (a1)) (wrap64 (1 + (Int.tmod (wrap64 (a0)) 9)))))))) (wrap64 (x15_4 + 1)) t347 t350)) else (none)) = some r := by rw [if_neg (show ¬ (false = true) by decide)] at H; exact H
                                            clear H
                                            have H := H1
                                            clear H1
                                            by_cases c70 : 0 ≤ x15_4
                                            · rw [if_pos c70] at H
                                              have c70b0 : decide (0 ≤ x15_4) = true := decide_eq_true c70
                                              clear c70
                                              replace H := Option.bind_eq_some_iff.mp H
                                              obtain ⟨t372, A710, H⟩ := H
                                              replace H : (plexuslaw23_BoundLexicode.l4 k4 true (wrap64 (1 + (Int.tmod (wrap64 (a1)) (wrap64 (1 + (Int.tmod (wrap64 (a0)) 9)))))) x9_1 x13_3 (decide (t372 < (wrap64 (1 + (Int.tmod (wrap64 (a1)) (wrap64 (1 + (Int.tmod (wrap64 (a0)) 9)))))))) (wrap64 (x15_4 + 1)) t347 t350) = some r := H
                                              have A71 := Aside0.mk A710
                                              clear A710
                                              have H' := Aside0.mk H
                                              clear H
                                              have hcz72_0 : wr.cell? ⟨gb351, 0, none⟩ = some (.slice (some ad352) t347.length co17) := (blk_cell BK351.out 0).trans rfl
                                              have hcz72_1 : wr.cell? ⟨gb351, 1, none⟩ = some (.int .i64 t350) := (blk_cell BK351.out 1).trans rfl
                                              have hfz72_0 := blk_frozen BK351.out 0
                                              have hfz72_1 := blk_frozen BK351.out 1
                                              have p371 : 0 ≤ (x15_4 : Int) := of_decide_eq_true (by first | (with_reducible assumption) | assumption)
                                              have q371 : x15_4 < (t347.length : Int) := of_decide_eq_true (by first | (with_reducible assumption) | assumption)
                                              obtain ⟨ad371, e371, hx371_0⟩ := Kd.at_int (Kd.R_reads' HO_352000.out).2.2 x15_4 p371 q371
                                              obtain rfl : ad352 = ad371 := (by injection e371)
                                              replace p371 := eq_true p371
                                              replace q371 := eq_true q371
                                              go_wp2_with (first | ((with_reducible refine gate_callee (f := 53) rfl ?_); refine goesL_ (some 165) rfl rfl Try.func53 (by kernel_rfl) rfl #[.int .i64 (Go.bits .xor .i64 (rd t347 x15_4) x13_3)] rfl (by (try simp only [List.map_toArray, List.map_cons, List.map_nil]); first | done | rfl | (simp only [List.length_drop, List.length_take]; rfl)) ?_; (with_reducible refine (plexusref23_Weight.calls k4 (Go.bits .xor .i64 (rd t347 x15_4) x13_3) t372 _ A71.out).mono ?_); rintro e w' ⟨rfl, ⟨nd, rfl⟩⟩; refine ⟨_, rfl, ?_⟩))
                                              go_roundg k4
                                              case measure => have := HK1.out; have := HK2.out; have := HK3.out; have := HK4.out; omega
                                              case rel => exact ⟨(decide (t372 < (wrap64 (1 + (Int.tmod (wrap64 (a1)) (wrap64 (1 + (Int.tmod (wrap64 (a0)) 9)))))))), (wrap64 (x15_4 + 1)), (by first | rfl | (simp; done) | (simp [*]; done)), (by first | rfl | (simp; done) | (simp [*]; done)), H', ⟨by have := HK1.out; have := HK2.out; have := HK3.out; have := HK4.out; omega⟩, ⟨by (with_reducible repeat (first | apply Kd.R_alloc | apply Kd.R_drewN | apply Kd.R_drew)); exact HO_9.out⟩, ⟨by (with_reducible repeat (first | apply Kd.R_alloc | apply Kd.R_drewN | apply Kd.R_drew)); exact HO_352000.out⟩, ⟨by (with_reducible repeat (first | refine blk_drewN ?_ _ | refine blk_drew ?_ | refine blk_alloc ?_ _)); exact BK351.out⟩, ⟨by repeat (first | (with_reducible first | exact HB.out | apply below_alloc | apply pw_below_drewN | apply below_drew1 | refine below_set ?_ GE351.out) | exact HB.out)⟩⟩
                                            · rw [if_neg c70] at H
                                              exact absurd H (by simp)
                                        · rw [if_neg c67] at H
                                          have c67b0 : decide (x15_4 < (t347.length : Int)) = false := decide_eq_false c67
                                          clear c67
                                          by_cases c73 : x14_4 = true
                                          · subst c73
                                            have H1 : (plexuslaw23_BoundLexicode.l3 k4 true (wrap64 (1 + (Int.tmod (wrap64 (a1)) (wrap64 (1 + (Int.tmod (wrap64 (a0)) 9)))))) x9_1 (wrap64 (x13_3 + 1)) t347 t350) = some r := by rw [if_pos rfl] at H; exact H
                                            clear H
                                            have H := H1
                                            clear H1
                                            have H' := Aside0.mk H
                                            clear H
                                            have hcz74_0 : wr.cell? ⟨gb351, 0, none⟩ = some (.slice (some ad352) t347.length co17) := (blk_cell BK351.out 0).trans rfl
                                            have hcz74_1 : wr.cell? ⟨gb351, 1, none⟩ = some (.int .i64 t350) := (blk_cell BK351.out 1).trans rfl
                                            have hfz74_0 := blk_frozen BK351.out 0
                                            have hfz74_1 := blk_frozen BK351.out 1
                                            go_wp2
                                            go_roundg k4
                                            case measure => have := HK1.out; have := HK2.out; have := HK3.out; have := HK4.out; omega
                                            case rel => exact ⟨(wrap64 (x13_3 + 1)), (by first | rfl | (simp; done) | (simp [*]; done)), H', ⟨by have := HK1.out; have := HK2.out; have := HK3.out; have := HK4.out; omega⟩, ⟨by (with_reducible repeat (first | apply Kd.R_alloc | apply Kd.R_drewN | apply Kd.R_drew)); exact HO_9.out⟩, ⟨by (with_reducible repeat (first | apply Kd.R_alloc | apply Kd.R_drewN | apply Kd.R_drew)); exact HO_352000.out⟩, ⟨by (with_reducible repeat (first | refine blk_drewN ?_ _ | refine blk_drew ?_ | refine blk_alloc ?_ _)); exact BK351.out⟩, ⟨by repeat (first | (with_reducible first | exact HB.out | apply below_alloc | apply pw_below_drewN | apply below_drew1 | refine below_set ?_ GE351.out) | exact HB.out)⟩⟩
                                          · replace c73 := Bool.eq_false_iff.mpr c73
                                            subst c73
                                            have H1 : (none) = some r := by rw [if_neg (show ¬ (false = true) by decide)] at H; exact H
                                            clear H
                                            have H := H1
                                            clear H1
                                            exact absurd H (by simp)
                                  · rw [if_neg c65] at H
                                    have c65b0 : decide (x13_3 < (x9_1.length : Int)) = false := decide_eq_false c65
                                    clear c65
                                    obtain rfl := Option.some.inj H
                                    obtain ⟨Ao75, co75, eo75⟩ := Kd.R_slice HO_9.out
                                    subst eo75
                                    go_wp2
                                    go_ret
                                    exact ⟨by first | rfl | (simp [errW_none, errW_some] <;> rfl) | (simp [*, errW_none, errW_some] <;> rfl), by repeat (first | (with_reducible first | exact HB.out | apply below_alloc | apply pw_below_drewN | apply below_drew1 | refine below_set ?_ GE351.out) | exact HB.out)⟩
                · rw [if_neg c13] at H
                  exact absurd H (by simp)
              · rw [if_neg c12] at H
                exact absurd H (by simp)
            · rw [if_neg c10] at H
              exact absurd H (by simp)
          · rw [if_neg c9] at H
            exact absurd H (by simp)
      · rw [if_neg c7] at H
        exact absurd H (by simp)
  · replace c4 := Bool.eq_false_iff.mpr c4
    subst c4
    have H1 : (none) = some r := by rw [if_neg (show ¬ (false = true) by decide)] at H; exact H
    clear H
    have H := H1
    clear H1
    exact absurd H (by simp)

/-- THE ONE PURE STATEMENT of plexuslaw23_BoundLexicode. -/
def plexuslaw23_BoundLexicode.Pure : Prop := ∀ (a0 : Int) (a1 : Int), (Lit.int .u8 a0).wf = true → (Lit.int .u8 a1).wf = true → ∃ k, plexuslaw23_BoundLexicode.f k a0 a1 = some true
theorem plexuslaw23_BoundLexicode.walk (P : plexuslaw23_BoundLexicode.Pure) (w : World) (a0 : Int) (w0 : (Lit.int .u8 a0).wf = true) (a1 : Int) (w1 : (Lit.int .u8 a1).wf = true) :
    Calls Try.prog 13 #[.int .u8 a0, .int .u8 a1] w fun e w' => e = .returned (.bool true) ∧ Below w.heap.size w w' := by
  obtain ⟨k, h⟩ := P a0 a1 w0 w1
  refine (plexuslaw23_BoundLexicode.calls k a0 a1 true w  h).mono ?_
  rintro e w' ⟨rfl, hd⟩
  exact ⟨rfl, hd⟩

end Go.Proofs.Ytcanekmlabehgaa.P
