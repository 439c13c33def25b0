-- PRINTED by print.py (a twelfth state) out of the translation. Not trusted: Lean checks it.
import Derived.Test.YtcanekmlabehgaaP03x0
import Derived.Test.YtcanekmlabehgaaP03x1
import Derived.Test.YtcanekmlabehgaaP03x2
import Derived.Test.YtcanekmlabehgaaP03x3
import Derived.Test.YtcanekmlabehgaaP03x4
import Derived.Test.YtcanekmlabehgaaP03x5
namespace Go.Proofs.Ytcanekmlabehgaa.P03
open Go.RowKit Go.Proofs.YtcanekmlabehgaaW.PrintWords Go.Proofs.YtcanekmlabehgaaW.PrintLast Go.Proofs.YtcanekmlabehgaaW.PrintMore
attribute [local go_sem] max2_int min2_int max_two min_two max_three min_three max_four min_four   -- for this text's walks alone
set_option linter.unusedVariables false
set_option linter.unusedSimpArgs false

/-! ### plexuslaw03_SealOpens: function 17 -/
def plexuslaw03_SealOpens.f (k : Nat) (l0 : List Int) (a1_0 : Int) (a1_1 : Int) (a1_2 : Int) (a2 : Int) : Option (Bool) := (plexuslaw03_examples.f k).bind fun t202 => (if t202 = true then ((plexusref03_Grown.f k l0 (wrap64 (1 + (wrap64 (Int.tmod a1_0 300))))).bind fun t203 => (if (t203.length : Int) = 0 then (none) else ((seal_Root.f k t203).bind fun t206 => ((plexuslaw03_opened.f k t203 (Int.tmod (wrap64 (a1_1)) (t203.length : Int))).bind fun bt207 => (if 0 ≤ (Int.tmod (wrap64 (a1_1)) (t203.length : Int)) then (if (Int.tmod (wrap64 (a1_1)) (t203.length : Int)) < (t203.length : Int) then (if bt207.2 = 0 then ((plexuslaw03_check.f k t206 (t203.length : Int) bt207.1 (Int.tmod (wrap64 (a1_1)) (t203.length : Int)) (rd t203 (Int.tmod (wrap64 (a1_1)) (t203.length : Int)))).bind fun t214 => (if t214 = 0 then ((plexuslaw03_check.f k t206 (t203.length : Int) bt207.1 (Int.tmod (wrap64 (a1_1)) (t203.length : Int)) a2).bind fun t215 => (if ((t215 == 0) != (a2 == (rd t203 (Int.tmod (wrap64 (a1_1)) (t203.length : Int))))) = true then (none) else ((some (([] : List Int) : List Int)).bind fun y217 => (if y217.length + bt207.1.length < 17592186044416 then ((some (y217 ++ bt207.1 : List Int)).bind fun y220 => (if y220.length < 17592186044416 then ((plexuslaw03_check.f k t206 (t203.length : Int) (y220 ++ [a2]) (Int.tmod (wrap64 (a1_1)) (t203.length : Int)) (rd t203 (Int.tmod (wrap64 (a1_1)) (t203.length : Int)))).bind fun t226 => (if t226 = 6 then (if (bt207.1.length : Int) = 0 then (if (t203.length : Int) = 1 then (some t202) else (none)) else ((some (([] : List Int) : List Int)).bind fun y227 => (if y227.length + bt207.1.length < 17592186044416 then ((some (y227 ++ bt207.1 : List Int)).bind fun y230 => (if 0 ≤ (Int.tmod (wrap64 (a1_2)) (bt207.1.length : Int)) then (if (Int.tmod (wrap64 (a1_2)) (bt207.1.length : Int)) < (y230.length : Int) then ((plexuslaw03_check.f k t206 (t203.length : Int) (y230.set ((Int.tmod (wrap64 (a1_2)) (bt207.1.length : Int)) : Int).toNat a2) (Int.tmod (wrap64 (a1_1)) (t203.length : Int)) (rd t203 (Int.tmod (wrap64 (a1_1)) (t203.length : Int)))).bind fun t234 => (if (Int.tmod (wrap64 (a1_2)) (bt207.1.length : Int)) < (bt207.1.length : Int) then (if ((t234 == 0) == (a2 == (rd bt207.1 (Int.tmod (wrap64 (a1_2)) (bt207.1.length : Int))))) = true then (if 0 ≤ (wrap64 ((bt207.1.length : Int) - 1)) then (if (wrap64 ((bt207.1.length : Int) - 1)) ≤ (bt207.1.length : Int) then ((plexuslaw03_check.f k t206 (t203.length : Int) (bt207.1.take ((wrap64 ((bt207.1.length : Int) - 1)) : Int).toNat) (Int.tmod (wrap64 (a1_1)) (t203.length : Int)) (rd t203 (Int.tmod (wrap64 (a1_1)) (t203.length : Int)))).bind fun t240 => (if t240 = 6 then (some t202) else (none))) else (none)) else (none)) else (none)) else (none))) else (none)) else (none))) else (none)))) else (none))) else (none))) else (none))))) else (none))) else (none)) else (none)) else (none)))))) else (none))
theorem plexuslaw03_SealOpens.mono : ∀ a0 a1 a2 a3 a4 k, LeO (plexuslaw03_SealOpens.f k a0 a1 a2 a3 a4) (plexuslaw03_SealOpens.f (k + 1) a0 a1 a2 a3 a4) := by
  intro a0 a1 a2 a3 a4 k
  unfold plexuslaw03_SealOpens.f
  repeat' first
      | (with_reducible exact plexuslaw03_check.mono _ _ _ _ _ _)
      | (with_reducible exact plexuslaw03_examples.mono _)
      | (with_reducible exact plexuslaw03_opened.mono _ _ _)
      | (with_reducible exact plexusref03_Grown.mono _ _ _)
      | (with_reducible exact seal_Root.mono _ _)
      | (with_reducible exact LeO.refl _)
      | (with_reducible exact LeO.none _)
      | (with_reducible refine LeO.ite ?_ ?_)
      | (with_reducible refine LeO.bind ?_ (fun _ => ?_))
      | exact plexuslaw03_check.mono _ _ _ _ _ _
      | exact plexuslaw03_examples.mono _
      | exact plexuslaw03_opened.mono _ _ _
      | exact plexusref03_Grown.mono _ _ _
      | exact seal_Root.mono _ _
      | exact LeO.none _
      | refine LeO.ite ?_ ?_
      | refine LeO.bind ?_ (fun _ => ?_)
def plexuslaw03_SealOpens.T8 : Bool × List (List Nat × List Nat) := (true, [([], []), ([0], [0]), ([1], [1]), ([2], [2]), ([3], [3]), ([3], [3]), ([5, 3], [3, 5]), ([3], [3]), ([7, 3], [3, 7]), ([6, 8, 3], [3, 6, 8]), ([3], [3]), ([4, 9, 10, 3, 3], [3, 4, 9, 10]), ([11, 3], [3, 11]), ([3, 12], [3, 12]), ([13, 11], [13]), ([14], [14]), ([14], [14]), ([16, 14], [14, 16]), ([14], [14]), ([18, 14], [14, 18]), ([17, 19, 14], [14, 17, 19]), ([14], [14]), ([14], [14]), ([21, 22, 14], [14, 21, 22]), ([15, 20, 23, 14, 14], [14, 15, 20, 23]), ([24, 14], [14, 24]), ([14], [14]), ([14], [14]), ([14], [14]), ([27, 28, 14], [14, 27, 28]), ([29, 14], [14, 29]), ([26, 30, 14], [14, 26, 30]), ([25, 31, 14], [14, 25, 31]), ([14, 32], [14, 32])])
def plexuslaw03_SealOpens.B8 : List Nat := [0, 1, 3, 7, 15, 15, 47, 15, 143, 495, 15, 2047, 4095, 8191, 16383, 32767, 32767, 98303, 32767, 294911, 1015807, 32767, 32767, 6324223, 16777215, 33554431, 32767, 32767, 32767, 402685951, 939556863, 2080407551, 4294967295, 8589934591]
theorem plexuslaw03_SealOpens.tab8 : rtab .any (opsOf Try.f17 8) = plexuslaw03_SealOpens.T8 := by kernel_rfl
theorem plexuslaw03_SealOpens.bits8 : waitsOk plexuslaw03_SealOpens.T8.2 plexuslaw03_SealOpens.B8 = true := by kernel_rfl
def plexuslaw03_SealOpens.T18 : Bool × List (List Nat × List Nat) := (true, [([], []), ([], []), ([1], [1]), ([], []), ([2, 3], [2, 3]), ([], []), ([0, 4, 5], [0, 4, 5]), ([6], [6]), ([], []), ([], []), ([9], [9]), ([], []), ([10, 11], [10, 11]), ([12], [12]), ([8, 13], [8, 13]), ([7, 14], [7, 14]), ([15, 6], [15]), ([16], [16]), ([16], [16]), ([18, 16], [16, 18]), ([16], [16]), ([20, 16], [16, 20]), ([16], [16]), ([22, 16], [16, 22]), ([23, 16], [16, 23]), ([24, 16], [16, 24]), ([21, 25, 16], [16, 21, 25]), ([19, 26, 16], [16, 19, 26]), ([16], [16]), ([17, 27, 28, 16, 16], [16, 17, 27, 28]), ([29, 16], [16, 29]), ([16, 30], [16, 30]), ([31, 29], [31]), ([32], [32]), ([32, 33], [32, 33]), ([34, 32, 0, 1, 2, 3, 4, 5, 6, 7, 8, 9, 10, 11, 12, 13, 14, 15, 16, 17, 18, 19, 20, 21, 22, 23, 24, 25, 26, 27, 28, 29, 30, 31, 32, 33, 34], [34])])
def plexuslaw03_SealOpens.B18 : List Nat := [0, 0, 2, 0, 14, 0, 63, 127, 0, 0, 512, 0, 3584, 7680, 16128, 32767, 65535, 131071, 131071, 393215, 131071, 1179647, 131071, 4325375, 12713983, 29491199, 66191359, 134086655, 131071, 536870911, 1073741823, 2147483647, 4294967295, 8589934591, 17179869183, 34359738367]
theorem plexuslaw03_SealOpens.tab18 : rtab .any (opsOf Try.f17 18) = plexuslaw03_SealOpens.T18 := by kernel_rfl
theorem plexuslaw03_SealOpens.bits18 : waitsOk plexuslaw03_SealOpens.T18.2 plexuslaw03_SealOpens.B18 = true := by kernel_rfl
set_option maxHeartbeats 8000000 in
set_option maxRecDepth 100000 in
theorem plexuslaw03_SealOpens.calls (k : Nat) (A0 : Option Addr) (c0 : Nat) (l0 : List Int) (a1_0 : Int) (a1_1 : Int) (a1_2 : Int) (a2 : Int) (r : Bool) (w : World) (hr0 : Kd.C (Kd.int .u64) w A0 l0.length l0) (hc0 : l0.length ≤ c0) (h : plexuslaw03_SealOpens.f k l0 a1_0 a1_1 a1_2 a2 = some r) :
    Calls Try.prog 17 #[.slice A0 l0.length c0, .agg #[.int .u16 a1_0, .int .u16 a1_1, .int .u16 a1_2], .int .u64 a2] w fun e w' => e = .returned (.bool r) ∧ Below w.heap.size w w' := by
  have hu76 := Try.underlying76
  have hu80 := Try.underlying80
  have hu83 := Try.underlying83
  have hu86 := Try.underlying86
  have hia76_0 : ∀ (g_ : Nat) (W_ : World), Sem.run Try.prog (Instr.indexAt 76 (.pointer (some ⟨g_, 0, none⟩)) (.int .i64 0)) W_ = .ok (.pointer (some ⟨g_, 0, none⟩)) W_ := fun _ _ => by kernel_rfl
  have hia76_1 : ∀ (g_ : Nat) (W_ : World), Sem.run Try.prog (Instr.indexAt 76 (.pointer (some ⟨g_, 0, none⟩)) (.int .i64 1)) W_ = .ok (.pointer (some ⟨g_, 1, none⟩)) W_ := fun _ _ => by kernel_rfl
  have hia76_2 : ∀ (g_ : Nat) (W_ : World), Sem.run Try.prog (Instr.indexAt 76 (.pointer (some ⟨g_, 0, none⟩)) (.int .i64 2)) W_ = .ok (.pointer (some ⟨g_, 2, none⟩)) W_ := fun _ _ => by kernel_rfl
  have HR0 := Aside0.mk hr0
  have HC0 := Aside0.mk hc0
  clear hr0 hc0
  have HB := Aside0.mk (Below.refl w.heap.size w)
  have H : ((plexuslaw03_examples.f k).bind fun t202 => (if t202 = true then ((plexusref03_Grown.f k l0 (wrap64 (1 + (wrap64 (Int.tmod a1_0 300))))).bind fun t203 => (if (t203.length : Int) = 0 then (none) else ((seal_Root.f k t203).bind fun t206 => ((plexuslaw03_opened.f k t203 (Int.tmod (wrap64 (a1_1)) (t203.length : Int))).bind fun bt207 => (if 0 ≤ (Int.tmod (wrap64 (a1_1)) (t203.length : Int)) then (if (Int.tmod (wrap64 (a1_1)) (t203.length : Int)) < (t203.length : Int) then (if bt207.2 = 0 then ((plexuslaw03_check.f k t206 (t203.length : Int) bt207.1 (Int.tmod (wrap64 (a1_1)) (t203.length : Int)) (rd t203 (Int.tmod (wrap64 (a1_1)) (t203.length : Int)))).bind fun t214 => (if t214 = 0 then ((plexuslaw03_check.f k t206 (t203.length : Int) bt207.1 (Int.tmod (wrap64 (a1_1)) (t203.length : Int)) a2).bind fun t215 => (if ((t215 == 0) != (a2 == (rd t203 (Int.tmod (wrap64 (a1_1)) (t203.length : Int))))) = true then (none) else ((some (([] : List Int) : List Int)).bind fun y217 => (if y217.length + bt207.1.length < 17592186044416 then ((some (y217 ++ bt207.1 : List Int)).bind fun y220 => (if y220.length < 17592186044416 then ((plexuslaw03_check.f k t206 (t203.length : Int) (y220 ++ [a2]) (Int.tmod (wrap64 (a1_1)) (t203.length : Int)) (rd t203 (Int.tmod (wrap64 (a1_1)) (t203.length : Int)))).bind fun t226 => (if t226 = 6 then (if (bt207.1.length : Int) = 0 then (if (t203.length : Int) = 1 then (some t202) else (none)) else ((some (([] : List Int) : List Int)).bind fun y227 => (if y227.length + bt207.1.length < 17592186044416 then ((some (y227 ++ bt207.1 : List Int)).bind fun y230 => (if 0 ≤ (Int.tmod (wrap64 (a1_2)) (bt207.1.length : Int)) then (if (Int.tmod (wrap64 (a1_2)) (bt207.1.length : Int)) < (y230.length : Int) then ((plexuslaw03_check.f k t206 (t203.length : Int) (y230.set ((Int.tmod (wrap64 (a1_2)) (bt207.1.length : Int)) : Int).toNat a2) (Int.tmod (wrap64 (a1_1)) (t203.length : Int)) (rd t203 (Int.tmod (wrap64 (a1_1)) (t203.length : Int)))).bind fun t234 => (if (Int.tmod (wrap64 (a1_2)) (bt207.1.length : Int)) < (bt207.1.length : Int) then (if ((t234 == 0) == (a2 == (rd bt207.1 (Int.tmod (wrap64 (a1_2)) (bt207.1.length : Int))))) = true then (if 0 ≤ (wrap64 ((bt207.1.length : Int) - 1)) then (if (wrap64 ((bt207.1.length : Int) - 1)) ≤ (bt207.1.length : Int) then ((plexuslaw03_check.f k t206 (t203.length : Int) (bt207.1.take ((wrap64 ((bt207.1.length : Int) - 1)) : Int).toNat) (Int.tmod (wrap64 (a1_1)) (t203.length : Int)) (rd t203 (Int.tmod (wrap64 (a1_1)) (t203.length : Int)))).bind fun t240 => (if t240 = 6 then (some t202) else (none))) else (none)) else (none)) else (none)) else (none))) else (none)) else (none))) else (none)))) else (none))) else (none))) else (none))))) else (none))) else (none)) else (none)) else (none)))))) else (none))) = some r := h
  clear h
  replace H := Option.bind_eq_some_iff.mp H
  obtain ⟨t202, A40, H⟩ := H
  replace H : (if t202 = true then ((plexusref03_Grown.f k l0 (wrap64 (1 + (wrap64 (Int.tmod a1_0 300))))).bind fun t203 => (if (t203.length : Int) = 0 then (none) else ((seal_Root.f k t203).bind fun t206 => ((plexuslaw03_opened.f k t203 (Int.tmod (wrap64 (a1_1)) (t203.length : Int))).bind fun bt207 => (if 0 ≤ (Int.tmod (wrap64 (a1_1)) (t203.length : Int)) then (if (Int.tmod (wrap64 (a1_1)) (t203.length : Int)) < (t203.length : Int) then (if bt207.2 = 0 then ((plexuslaw03_check.f k t206 (t203.length : Int) bt207.1 (Int.tmod (wrap64 (a1_1)) (t203.length : Int)) (rd t203 (Int.tmod (wrap64 (a1_1)) (t203.length : Int)))).bind fun t214 => (if t214 = 0 then ((plexuslaw03_check.f k t206 (t203.length : Int) bt207.1 (Int.tmod (wrap64 (a1_1)) (t203.length : Int)) a2).bind fun t215 => (if ((t215 == 0) != (a2 == (rd t203 (Int.tmod (wrap64 (a1_1)) (t203.length : Int))))) = true then (none) else ((some (([] : List Int) : List Int)).bind fun y217 => (if y217.length + bt207.1.length < 17592186044416 then ((some (y217 ++ bt207.1 : List Int)).bind fun y220 => (if y220.length < 17592186044416 then ((plexuslaw03_check.f k t206 (t203.length : Int) (y220 ++ [a2]) (Int.tmod (wrap64 (a1_1)) (t203.length : Int)) (rd t203 (Int.tmod (wrap64 (a1_1)) (t203.length : Int)))).bind fun t226 => (if t226 = 6 then (if (bt207.1.length : Int) = 0 then (if (t203.length : Int) = 1 then (some t202) else (none)) else ((some (([] : List Int) : List Int)).bind fun y227 => (if y227.length + bt207.1.length < 17592186044416 then ((some (y227 ++ bt207.1 : List Int)).bind fun y230 => (if 0 ≤ (Int.tmod (wrap64 (a1_2)) (bt207.1.length : Int)) then (if (Int.tmod (wrap64 (a1_2)) (bt207.1.length : Int)) < (y230.length : Int) then ((plexuslaw03_check.f k t206 (t203.length : Int) (y230.set ((Int.tmod (wrap64 (a1_2)) (bt207.1.length : Int)) : Int).toNat a2) (Int.tmod (wrap64 (a1_1)) (t203.length : Int)) (rd t203 (Int.tmod (wrap64 (a1_1)) (t203.length : Int)))).bind fun t234 => (if (Int.tmod (wrap64 (a1_2)) (bt207.1.length : Int)) < (bt207.1.length : Int) then (if ((t234 == 0) == (a2 == (rd bt207.1 (Int.tmod (wrap64 (a1_2)) (bt207.1.length : Int))))) = true then (if 0 ≤ (wrap64 ((bt207.1.length : Int) - 1)) then (if (wrap64 ((bt207.1.length : Int) - 1)) ≤ (bt207.1.length : Int) then ((plexuslaw03_check.f k t206 (t203.length : Int) (bt207.1.take ((wrap64 ((bt207.1.length : Int) - 1)) : Int).toNat) (Int.tmod (wrap64 (a1_1)) (t203.length : Int)) (rd t203 (Int.tmod (wrap64 (a1_1)) (t203.length : Int)))).bind fun t240 => (if t240 = 6 then (some t202) else (none))) else (none)) else (none)) else (none)) else (none))) else (none)) else (none))) else (none)))) else (none))) else (none))) else (none))))) else (none))) else (none)) else (none)) else (none)))))) else (none)) = some r := H
  have A4 := Aside0.mk A40
  clear A40
  by_cases c5 : t202 = true
  · subst c5
    have H1 : ((plexusref03_Grown.f k l0 (wrap64 (1 + (wrap64 (Int.tmod a1_0 300))))).bind fun t203 => (if (t203.length : Int) = 0 then (none) else ((seal_Root.f k t203).bind fun t206 => ((plexuslaw03_opened.f k t203 (Int.tmod (wrap64 (a1_1)) (t203.length : Int))).bind fun bt207 => (if 0 ≤ (Int.tmod (wrap64 (a1_1)) (t203.length : Int)) then (if (Int.tmod (wrap64 (a1_1)) (t203.length : Int)) < (t203.length : Int) then (if bt207.2 = 0 then ((plexuslaw03_check.f k t206 (t203.length : Int) bt207.1 (Int.tmod (wrap64 (a1_1)) (t203.length : Int)) (rd t203 (Int.tmod (wrap64 (a1_1)) (t203.length : Int)))).bind fun t214 => (if t214 = 0 then ((plexuslaw03_check.f k t206 (t203.length : Int) bt207.1 (Int.tmod (wrap64 (a1_1)) (t203.length : Int)) a2).bind fun t215 => (if ((t215 == 0) != (a2 == (rd t203 (Int.tmod (wrap64 (a1_1)) (t203.length : Int))))) = true then (none) else ((some (([] : List Int) : List Int)).bind fun y217 => (if y217.length + bt207.1.length < 17592186044416 then ((some (y217 ++ bt207.1 : List Int)).bind fun y220 => (if y220.length < 17592186044416 then ((plexuslaw03_check.f k t206 (t203.length : Int) (y220 ++ [a2]) (Int.tmod (wrap64 (a1_1)) (t203.length : Int)) (rd t203 (Int.tmod (wrap64 (a1_1)) (t203.length : Int)))).bind fun t226 => (if t226 = 6 then (if (bt207.1.length : Int) = 0 then (if (t203.length : Int) = 1 then (some true) else (none)) else ((some (([] : List Int) : List Int)).bind fun y227 => (if y227.length + bt207.1.length < 17592186044416 then ((some (y227 ++ bt207.1 : List Int)).bind fun y230 => (if 0 ≤ (Int.tmod (wrap64 (a1_2)) (bt207.1.length : Int)) then (if (Int.tmod (wrap64 (a1_2)) (bt207.1.length : Int)) < (y230.length : Int) then ((plexuslaw03_check.f k t206 (t203.length : Int) (y230.set ((Int.tmod (wrap64 (a1_2)) (bt207.1.length : Int)) : Int).toNat a2) (Int.tmod (wrap64 (a1_1)) (t203.length : Int)) (rd t203 (Int.tmod (wrap64 (a1_1)) (t203.length : Int)))).bind fun t234 => (if (Int.tmod (wrap64 (a1_2)) (bt207.1.length : Int)) < (bt207.1.length : Int) then (if ((t234 == 0) == (a2 == (rd bt207.1 (Int.tmod (wrap64 (a1_2)) (bt207.1.length : Int))))) = true then (if 0 ≤ (wrap64 ((bt207.1.length : Int) - 1)) then (if (wrap64 ((bt207.1.length : Int) - 1)) ≤ (bt207.1.length : Int) then ((plexuslaw03_check.f k t206 (t203.length : Int) (bt207.1.take ((wrap64 ((bt207.1.length : Int) - 1)) : Int).toNat) (Int.tmod (wrap64 (a1_1)) (t203.length : Int)) (rd t203 (Int.tmod (wrap64 (a1_1)) (t203.length : Int)))).bind fun t240 => (if t240 = 6 then (some true) else (none))) else (none)) else (none)) else (none)) else (none))) else (none)) else (none))) else (none)))) else (none))) else (none))) else (none))))) else (none))) else (none)) else (none)) else (none)))))) = some r := by rw [if_pos rfl] at H; exact H
    clear H
    have H := H1
    clear H1
    replace H := Option.bind_eq_some_iff.mp H
    obtain ⟨t203, A60, H⟩ := H
    replace H : (if (t203.length : Int) = 0 then (none) else ((seal_Root.f k t203).bind fun t206 => ((plexuslaw03_opened.f k t203 (Int.tmod (wrap64 (a1_1)) (t203.length : Int))).bind fun bt207 => (if 0 ≤ (Int.tmod (wrap64 (a1_1)) (t203.length : Int)) then (if (Int.tmod (wrap64 (a1_1)) (t203.length : Int)) < (t203.length : Int) then (if bt207.2 = 0 then ((plexuslaw03_check.f k t206 (t203.length : Int) bt207.1 (Int.tmod (wrap64 (a1_1)) (t203.length : Int)) (rd t203 (Int.tmod (wrap64 (a1_1)) (t203.length : Int)))).bind fun t214 => (if t214 = 0 then ((plexuslaw03_check.f k t206 (t203.length : Int) bt207.1 (Int.tmod (wrap64 (a1_1)) (t203.length : Int)) a2).bind fun t215 => (if ((t215 == 0) != (a2 == (rd t203 (Int.tmod (wrap64 (a1_1)) (t203.length : Int))))) = true then (none) else ((some (([] : List Int) : List Int)).bind fun y217 => (if y217.length + bt207.1.length < 17592186044416 then ((some (y217 ++ bt207.1 : List Int)).bind fun y220 => (if y220.length < 17592186044416 then ((plexuslaw03_check.f k t206 (t203.length : Int) (y220 ++ [a2]) (Int.tmod (wrap64 (a1_1)) (t203.length : Int)) (rd t203 (Int.tmod (wrap64 (a1_1)) (t203.length : Int)))).bind fun t226 => (if t226 = 6 then (if (bt207.1.length : Int) = 0 then (if (t203.length : Int) = 1 then (some true) else (none)) else ((some (([] : List Int) : List Int)).bind fun y227 => (if y227.length + bt207.1.length < 17592186044416 then ((some (y227 ++ bt207.1 : List Int)).bind fun y230 => (if 0 ≤ (Int.tmod (wrap64 (a1_2)) (bt207.1.length : Int)) then (if (Int.tmod (wrap64 (a1_2)) (bt207.1.length : Int)) < (y230.length : Int) then ((plexuslaw03_check.f k t206 (t203.length : Int) (y230.set ((Int.tmod (wrap64 (a1_2)) (bt207.1.length : Int)) : Int).toNat a2) (Int.tmod (wrap64 (a1_1)) (t203.length : Int)) (rd t203 (Int.tmod (wrap64 (a1_1)) (t203.length : Int)))).bind fun t234 => (if (Int.tmod (wrap64 (a1_2)) (bt207.1.length : Int)) < (bt207.1.length : Int) then (if ((t234 == 0) == (a2 == (rd bt207.1 (Int.tmod (wrap64 (a1_2)) (bt207.1.length : Int))))) = true then (if 0 ≤ (wrap64 ((bt207.1.length : Int) - 1)) then (if (wrap64 ((bt207.1.length : Int) - 1)) ≤ (bt207.1.length : Int) then ((plexuslaw03_check.f k t206 (t203.length : Int) (bt207.1.take ((wrap64 ((bt207.1.length : Int) - 1)) : Int).toNat) (Int.tmod (wrap64 (a1_1)) (t203.length : Int)) (rd t203 (Int.tmod (wrap64 (a1_1)) (t203.length : Int)))).bind fun t240 => (if t240 = 6 then (some true) else (none))) else (none)) else (none)) else (none)) else (none))) else (none)) else (none))) else (none)))) else (none))) else (none))) else (none))))) else (none))) else (none)) else (none)) else (none))))) = some r := H
    have A6 := Aside0.mk A60
    clear A60
    by_cases c7 : (t203.length : Int) = 0
    · rw [if_pos c7] at H
      exact absurd H (by simp)
    · rw [if_neg c7] at H
      have c7b0 : ((t203.length : Int) == 0) = false := beq_eq_false_iff_ne.mpr c7
      have c7b1 : ((t203.length : Int) != 0) = true := bne_iff_ne.mpr c7
      have c7b2 : ¬ (t203 = []) := fun h_ => c7 (by rw [h_]; rfl)
      replace H := Option.bind_eq_some_iff.mp H
      obtain ⟨t206, A80, H⟩ := H
      replace H : ((plexuslaw03_opened.f k t203 (Int.tmod (wrap64 (a1_1)) (t203.length : Int))).bind fun bt207 => (if 0 ≤ (Int.tmod (wrap64 (a1_1)) (t203.length : Int)) then (if (Int.tmod (wrap64 (a1_1)) (t203.length : Int)) < (t203.length : Int) then (if bt207.2 = 0 then ((plexuslaw03_check.f k t206 (t203.length : Int) bt207.1 (Int.tmod (wrap64 (a1_1)) (t203.length : Int)) (rd t203 (Int.tmod (wrap64 (a1_1)) (t203.length : Int)))).bind fun t214 => (if t214 = 0 then ((plexuslaw03_check.f k t206 (t203.length : Int) bt207.1 (Int.tmod (wrap64 (a1_1)) (t203.length : Int)) a2).bind fun t215 => (if ((t215 == 0) != (a2 == (rd t203 (Int.tmod (wrap64 (a1_1)) (t203.length : Int))))) = true then (none) else ((some (([] : List Int) : List Int)).bind fun y217 => (if y217.length + bt207.1.length < 17592186044416 then ((some (y217 ++ bt207.1 : List Int)).bind fun y220 => (if y220.length < 17592186044416 then ((plexuslaw03_check.f k t206 (t203.length : Int) (y220 ++ [a2]) (Int.tmod (wrap64 (a1_1)) (t203.length : Int)) (rd t203 (Int.tmod (wrap64 (a1_1)) (t203.length : Int)))).bind fun t226 => (if t226 = 6 then (if (bt207.1.length : Int) = 0 then (if (t203.length : Int) = 1 then (some true) else (none)) else ((some (([] : List Int) : List Int)).bind fun y227 => (if y227.length + bt207.1.length < 17592186044416 then ((some (y227 ++ bt207.1 : List Int)).bind fun y230 => (if 0 ≤ (Int.tmod (wrap64 (a1_2)) (bt207.1.length : Int)) then (if (Int.tmod (wrap64 (a1_2)) (bt207.1.length : Int)) < (y230.length : Int) then ((plexuslaw03_check.f k t206 (t203.length : Int) (y230.set ((Int.tmod (wrap64 (a1_2)) (bt207.1.length : Int)) : Int).toNat a2) (Int.tmod (wrap64 (a1_1)) (t203.length : Int)) (rd t203 (Int.tmod (wrap64 (a1_1)) (t203.length : Int)))).bind fun t234 => (if (Int.tmod (wrap64 (a1_2)) (bt207.1.length : Int)) < (bt207.1.length : Int) then (if ((t234 == 0) == (a2 == (rd bt207.1 (Int.tmod (wrap64 (a1_2)) (bt207.1.length : Int))))) = true then (if 0 ≤ (wrap64 ((bt207.1.length : Int) - 1)) then (if (wrap64 ((bt207.1.length : Int) - 1)) ≤ (bt207.1.length : Int) then ((plexuslaw03_check.f k t206 (t203.length : Int) (bt207.1.take ((wrap64 ((bt207.1.length : Int) - 1)) : Int).toNat) (Int.tmod (wrap64 (a1_1)) (t203.length : Int)) (rd t203 (Int.tmod (wrap64 (a1_1)) (t203.length : Int)))).bind fun t240 => (if t240 = 6 then (some true) else (none))) else (none)) else (none)) else (none)) else (none))) else (none)) else (none))) else (none)))) else (none))) else (none))) else (none))))) else (none))) else (none)) else (none)) else (none))) = some r := H
      have A8 := Aside0.mk A80
      clear A80
      replace H := Option.bind_eq_some_iff.mp H
      obtain ⟨⟨t207, t210⟩, A90, H⟩ := H
      replace H : (if 0 ≤ (Int.tmod (wrap64 (a1_1)) (t203.length : Int)) then (if (Int.tmod (wrap64 (a1_1)) (t203.length : Int)) < (t203.length : Int) then (if t210 = 0 then ((plexuslaw03_check.f k t206 (t203.length : Int) t207 (Int.tmod (wrap64 (a1_1)) (t203.length : Int)) (rd t203 (Int.tmod (wrap64 (a1_1)) (t203.length : Int)))).bind fun t214 => (if t214 = 0 then ((plexuslaw03_check.f k t206 (t203.length : Int) t207 (Int.tmod (wrap64 (a1_1)) (t203.length : Int)) a2).bind fun t215 => (if ((t215 == 0) != (a2 == (rd t203 (Int.tmod (wrap64 (a1_1)) (t203.length : Int))))) = true then (none) else ((some (([] : List Int) : List Int)).bind fun y217 => (if y217.length + t207.length < 17592186044416 then ((some (y217 ++ t207 : List Int)).bind fun y220 => (if y220.length < 17592186044416 then ((plexuslaw03_check.f k t206 (t203.length : Int) (y220 ++ [a2]) (Int.tmod (wrap64 (a1_1)) (t203.length : Int)) (rd t203 (Int.tmod (wrap64 (a1_1)) (t203.length : Int)))).bind fun t226 => (if t226 = 6 then (if (t207.length : Int) = 0 then (if (t203.length : Int) = 1 then (some true) else (none)) else ((some (([] : List Int) : List Int)).bind fun y227 => (if y227.length + t207.length < 17592186044416 then ((some (y227 ++ t207 : List Int)).bind fun y230 => (if 0 ≤ (Int.tmod (wrap64 (a1_2)) (t207.length : Int)) then (if (Int.tmod (wrap64 (a1_2)) (t207.length : Int)) < (y230.length : Int) then ((plexuslaw03_check.f k t206 (t203.length : Int) (y230.set ((Int.tmod (wrap64 (a1_2)) (t207.length : Int)) : Int).toNat a2) (Int.tmod (wrap64 (a1_1)) (t203.length : Int)) (rd t203 (Int.tmod (wrap64 (a1_1)) (t203.length : Int)))).bind fun t234 => (if (Int.tmod (wrap64 (a1_2)) (t207.length : Int)) < (t207.length : Int) then (if ((t234 == 0) == (a2 == (rd t207 (Int.tmod (wrap64 (a1_2)) (t207.length : Int))))) = true then (if 0 ≤ (wrap64 ((t207.length : Int) - 1)) then (if (wrap64 ((t207.length : Int) - 1)) ≤ (t207.length : Int) then ((plexuslaw03_check.f k t206 (t203.length : Int) (t207.take ((wrap64 ((t207.length : Int) - 1)) : Int).toNat) (Int.tmod (wrap64 (a1_1)) (t203.length : Int)) (rd t203 (Int.tmod (wrap64 (a1_1)) (t203.length : Int)))).bind fun t240 => (if t240 = 6 then (some true) else (none))) else (none)) else (none)) else (none)) else (none))) else (none)) else (none))) else (none)))) else (none))) else (none))) else (none))))) else (none))) else (none)) else (none)) else (none)) = some r := H
      have A9 := Aside0.mk A90
      clear A90
      obtain ⟨ji10, hji10⟩ : ∃ j_ : Int, (Int.tmod (wrap64 (a1_1)) (t203.length : Int)) = j_ := ⟨_, rfl⟩
      replace H : (if 0 ≤ (ji10) then (if (ji10) < (t203.length : Int) then (if t210 = 0 then ((plexuslaw03_check.f k t206 (t203.length : Int) t207 (ji10) (rd t203 (ji10))).bind fun t214 => (if t214 = 0 then ((plexuslaw03_check.f k t206 (t203.length : Int) t207 (ji10) a2).bind fun t215 => (if ((t215 == 0) != (a2 == (rd t203 (ji10)))) = true then (none) else ((some (([] : List Int) : List Int)).bind fun y217 => (if y217.length + t207.length < 17592186044416 then ((some (y217 ++ t207 : List Int)).bind fun y220 => (if y220.length < 17592186044416 then ((plexuslaw03_check.f k t206 (t203.length : Int) (y220 ++ [a2]) (ji10) (rd t203 (ji10))).bind fun t226 => (if t226 = 6 then (if (t207.length : Int) = 0 then (if (t203.length : Int) = 1 then (some true) else (none)) else ((some (([] : List Int) : List Int)).bind fun y227 => (if y227.length + t207.length < 17592186044416 then ((some (y227 ++ t207 : List Int)).bind fun y230 => (if 0 ≤ (Int.tmod (wrap64 (a1_2)) (t207.length : Int)) then (if (Int.tmod (wrap64 (a1_2)) (t207.length : Int)) < (y230.length : Int) then ((plexuslaw03_check.f k t206 (t203.length : Int) (y230.set ((Int.tmod (wrap64 (a1_2)) (t207.length : Int)) : Int).toNat a2) (ji10) (rd t203 (ji10))).bind fun t234 => (if (Int.tmod (wrap64 (a1_2)) (t207.length : Int)) < (t207.length : Int) then (if ((t234 == 0) == (a2 == (rd t207 (Int.tmod (wrap64 (a1_2)) (t207.length : Int))))) = true then (if 0 ≤ (wrap64 ((t207.length : Int) - 1)) then (if (wrap64 ((t207.length : Int) - 1)) ≤ (t207.length : Int) then ((plexuslaw03_check.f k t206 (t203.length : Int) (t207.take ((wrap64 ((t207.length : Int) - 1)) : Int).toNat) (ji10) (rd t203 (ji10))).bind fun t240 => (if t240 = 6 then (some true) else (none))) else (none)) else (none)) else (none)) else (none))) else (none)) else (none))) else (none)))) else (none))) else (none))) else (none))))) else (none))) else (none)) else (none)) else (none)) = some r := by first | (rw [hji10] at H; exact H) | (simp only [hji10] at H ⊢; exact H)
      (try rw [hji10] at A4)
      (try rw [hji10] at A6)
      (try rw [hji10] at A8)
      (try rw [hji10] at A9)
      by_cases c11 : 0 ≤ (ji10)
      · rw [if_pos c11] at H
        have c11b0 : decide (0 ≤ (ji10)) = true := decide_eq_true c11
        clear c11
        by_cases c12 : (ji10) < (t203.length : Int)
        · rw [if_pos c12] at H
          have c12b0 : decide ((ji10) < (t203.length : Int)) = true := decide_eq_true c12
          clear c12
          by_cases c13 : t210 = 0
          · rw [if_pos c13] at H
            have c13b0 : (t210 == 0) = true := beq_iff_eq.mpr c13
            have c13b1 : (t210 != 0) = false := bne_eq_false_iff_eq.mpr c13
            clear c13
            replace H := Option.bind_eq_some_iff.mp H
            obtain ⟨t214, A140, H⟩ := H
            replace H : (if t214 = 0 then ((plexuslaw03_check.f k t206 (t203.length : Int) t207 (ji10) a2).bind fun t215 => (if ((t215 == 0) != (a2 == (rd t203 (ji10)))) = true then (none) else ((some (([] : List Int) : List Int)).bind fun y217 => (if y217.length + t207.length < 17592186044416 then ((some (y217 ++ t207 : List Int)).bind fun y220 => (if y220.length < 17592186044416 then ((plexuslaw03_check.f k t206 (t203.length : Int) (y220 ++ [a2]) (ji10) (rd t203 (ji10))).bind fun t226 => (if t226 = 6 then (if (t207.length : Int) = 0 then (if (t203.length : Int) = 1 then (some true) else (none)) else ((some (([] : List Int) : List Int)).bind fun y227 => (if y227.length + t207.length < 17592186044416 then ((some (y227 ++ t207 : List Int)).bind fun y230 => (if 0 ≤ (Int.tmod (wrap64 (a1_2)) (t207.length : Int)) then (if (Int.tmod (wrap64 (a1_2)) (t207.length : Int)) < (y230.length : Int) then ((plexuslaw03_check.f k t206 (t203.length : Int) (y230.set ((Int.tmod (wrap64 (a1_2)) (t207.length : Int)) : Int).toNat a2) (ji10) (rd t203 (ji10))).bind fun t234 => (if (Int.tmod (wrap64 (a1_2)) (t207.length : Int)) < (t207.length : Int) then (if ((t234 == 0) == (a2 == (rd t207 (Int.tmod (wrap64 (a1_2)) (t207.length : Int))))) = true then (if 0 ≤ (wrap64 ((t207.length : Int) - 1)) then (if (wrap64 ((t207.length : Int) - 1)) ≤ (t207.length : Int) then ((plexuslaw03_check.f k t206 (t203.length : Int) (t207.take ((wrap64 ((t207.length : Int) - 1)) : Int).toNat) (ji10) (rd t203 (ji10))).bind fun t240 => (if t240 = 6 then (some true) else (none))) else (none)) else (none)) else (none)) else (none))) else (none)) else (none))) else (none)))) else (none))) else (none))) else (none))))) else (none)) = some r := H
            have A14 := Aside0.mk A140
            clear A140
            by_cases c15 : t214 = 0
            · rw [if_pos c15] at H
              have c15b0 : (t214 == 0) = true := beq_iff_eq.mpr c15
              have c15b1 : (t214 != 0) = false := bne_eq_false_iff_eq.mpr c15
              clear c15
              replace H := Option.bind_eq_some_iff.mp H
              obtain ⟨t215, A160, H⟩ := H
              replace H : (if ((t215 == 0) != (a2 == (rd t203 (ji10)))) = true then (none) else ((some (([] : List Int) : List Int)).bind fun y217 => (if y217.length + t207.length < 17592186044416 then ((some (y217 ++ t207 : List Int)).bind fun y220 => (if y220.length < 17592186044416 then ((plexuslaw03_check.f k t206 (t203.length : Int) (y220 ++ [a2]) (ji10) (rd t203 (ji10))).bind fun t226 => (if t226 = 6 then (if (t207.length : Int) = 0 then (if (t203.length : Int) = 1 then (some true) else (none)) else ((some (([] : List Int) : List Int)).bind fun y227 => (if y227.length + t207.length < 17592186044416 then ((some (y227 ++ t207 : List Int)).bind fun y230 => (if 0 ≤ (Int.tmod (wrap64 (a1_2)) (t207.length : Int)) then (if (Int.tmod (wrap64 (a1_2)) (t207.length : Int)) < (y230.length : Int) then ((plexuslaw03_check.f k t206 (t203.length : Int) (y230.set ((Int.tmod (wrap64 (a1_2)) (t207.length : Int)) : Int).toNat a2) (ji10) (rd t203 (ji10))).bind fun t234 => (if (Int.tmod (wrap64 (a1_2)) (t207.length : Int)) < (t207.length : Int) then (if ((t234 == 0) == (a2 == (rd t207 (Int.tmod (wrap64 (a1_2)) (t207.length : Int))))) = true then (if 0 ≤ (wrap64 ((t207.length : Int) - 1)) then (if (wrap64 ((t207.length : Int) - 1)) ≤ (t207.length : Int) then ((plexuslaw03_check.f k t206 (t203.length : Int) (t207.take ((wrap64 ((t207.length : Int) - 1)) : Int).toNat) (ji10) (rd t203 (ji10))).bind fun t240 => (if t240 = 6 then (some true) else (none))) else (none)) else (none)) else (none)) else (none))) else (none)) else (none))) else (none)))) else (none))) else (none))) else (none)))) = some r := H
              have A16 := Aside0.mk A160
              clear A160
              by_cases c17 : ((t215 == 0) != (a2 == (rd t203 (ji10)))) = true
              · rw [if_pos c17] at H
                exact absurd H (by simp)
              · rw [if_neg c17] at H
                have c17b0 : ((t215 == 0) != (a2 == (rd t203 (ji10)))) = false := by simpa using c17
                (try (have c17b1 : decide ((t215 == 0) = (a2 == (rd t203 (ji10)))) = true := by simpa using c17))
                (try (have c17b2 : ((t215 == 0) == (a2 == (rd t203 (ji10)))) = true := by simpa using c17))
                clear c17
                obtain ⟨y217, hy217⟩ : ∃ y_ : List Int, y_ = (([] : List Int)) := ⟨_, rfl⟩
                replace H : (if y217.length + t207.length < 17592186044416 then ((some (y217 ++ t207 : List Int)).bind fun y220 => (if y220.length < 17592186044416 then ((plexuslaw03_check.f k t206 (t203.length : Int) (y220 ++ [a2]) (ji10) (rd t203 (ji10))).bind fun t226 => (if t226 = 6 then (if (t207.length : Int) = 0 then (if (t203.length : Int) = 1 then (some true) else (none)) else ((some (([] : List Int) : List Int)).bind fun y227 => (if y227.length + t207.length < 17592186044416 then ((some (y227 ++ t207 : List Int)).bind fun y230 => (if 0 ≤ (Int.tmod (wrap64 (a1_2)) (t207.length : Int)) then (if (Int.tmod (wrap64 (a1_2)) (t207.length : Int)) < (y230.length : Int) then ((plexuslaw03_check.f k t206 (t203.length : Int) (y230.set ((Int.tmod (wrap64 (a1_2)) (t207.length : Int)) : Int).toNat a2) (ji10) (rd t203 (ji10))).bind fun t234 => (if (Int.tmod (wrap64 (a1_2)) (t207.length : Int)) < (t207.length : Int) then (if ((t234 == 0) == (a2 == (rd t207 (Int.tmod (wrap64 (a1_2)) (t207.length : Int))))) = true then (if 0 ≤ (wrap64 ((t207.length : Int) - 1)) then (if (wrap64 ((t207.length : Int) - 1)) ≤ (t207.length : Int) then ((plexuslaw03_check.f k t206 (t203.length : Int) (t207.take ((wrap64 ((t207.length : Int) - 1)) : Int).toNat) (ji10) (rd t203 (ji10))).bind fun t240 => (if t240 = 6 then (some true) else (none))) else (none)) else (none)) else (none)) else (none))) else (none)) else (none))) else (none)))) else (none))) else (none))) else (none)) = some r := by first | (rw [hy217]; with_reducible exact H) | (have H2_ := (Option.bind_some _ _).symm.trans H; rw [hy217]; with_reducible exact H2_) | (have H2_ := (Option.bind_some _ _).symm.trans H; with_reducible exact H2_) | with_reducible exact H | (rw [hy217]; exact H) | exact H
                have Ny217 := Aside0.mk hy217
                clear hy217
                by_cases c18 : y217.length + t207.length < 17592186044416
                · rw [if_pos c18] at H
                  have LMc18 := Aside0.mk c18
                  clear c18
                  obtain ⟨y220, hy220⟩ : ∃ y_ : List Int, y_ = (y217 ++ t207) := ⟨_, rfl⟩
                  replace H : (if y220.length < 17592186044416 then ((plexuslaw03_check.f k t206 (t203.length : Int) (y220 ++ [a2]) (ji10) (rd t203 (ji10))).bind fun t226 => (if t226 = 6 then (if (t207.length : Int) = 0 then (if (t203.length : Int) = 1 then (some true) else (none)) else ((some (([] : List Int) : List Int)).bind fun y227 => (if y227.length + t207.length < 17592186044416 then ((some (y227 ++ t207 : List Int)).bind fun y230 => (if 0 ≤ (Int.tmod (wrap64 (a1_2)) (t207.length : Int)) then (if (Int.tmod (wrap64 (a1_2)) (t207.length : Int)) < (y230.length : Int) then ((plexuslaw03_check.f k t206 (t203.length : Int) (y230.set ((Int.tmod (wrap64 (a1_2)) (t207.length : Int)) : Int).toNat a2) (ji10) (rd t203 (ji10))).bind fun t234 => (if (Int.tmod (wrap64 (a1_2)) (t207.length : Int)) < (t207.length : Int) then (if ((t234 == 0) == (a2 == (rd t207 (Int.tmod (wrap64 (a1_2)) (t207.length : Int))))) = true then (if 0 ≤ (wrap64 ((t207.length : Int) - 1)) then (if (wrap64 ((t207.length : Int) - 1)) ≤ (t207.length : Int) then ((plexuslaw03_check.f k t206 (t203.length : Int) (t207.take ((wrap64 ((t207.length : Int) - 1)) : Int).toNat) (ji10) (rd t203 (ji10))).bind fun t240 => (if t240 = 6 then (some true) else (none))) else (none)) else (none)) else (none)) else (none))) else (none)) else (none))) else (none)))) else (none))) else (none)) = some r := by first | (rw [hy220]; with_reducible exact H) | (have H2_ := (Option.bind_some _ _).symm.trans H; rw [hy220]; with_reducible exact H2_) | (have H2_ := (Option.bind_some _ _).symm.trans H; with_reducible exact H2_) | with_reducible exact H | (rw [hy220]; exact H) | exact H
                  have Ny220 := Aside0.mk hy220
                  clear hy220
                  by_cases c19 : y220.length < 17592186044416
                  · rw [if_pos c19] at H
                    have LMc19 := Aside0.mk c19
                    clear c19
                    obtain ⟨y223, hy223⟩ : ∃ y_ : List Int, y_ = (y220 ++ [a2]) := ⟨_, rfl⟩
                    replace H : ((plexuslaw03_check.f k t206 (t203.length : Int) y223 (ji10) (rd t203 (ji10))).bind fun t226 => (if t226 = 6 then (if (t207.length : Int) = 0 then (if (t203.length : Int) = 1 then (some true) else (none)) else ((some (([] : List Int) : List Int)).bind fun y227 => (if y227.length + t207.length < 17592186044416 then ((some (y227 ++ t207 : List Int)).bind fun y230 => (if 0 ≤ (Int.tmod (wrap64 (a1_2)) (t207.length : Int)) then (if (Int.tmod (wrap64 (a1_2)) (t207.length : Int)) < (y230.length : Int) then ((plexuslaw03_check.f k t206 (t203.length : Int) (y230.set ((Int.tmod (wrap64 (a1_2)) (t207.length : Int)) : Int).toNat a2) (ji10) (rd t203 (ji10))).bind fun t234 => (if (Int.tmod (wrap64 (a1_2)) (t207.length : Int)) < (t207.length : Int) then (if ((t234 == 0) == (a2 == (rd t207 (Int.tmod (wrap64 (a1_2)) (t207.length : Int))))) = true then (if 0 ≤ (wrap64 ((t207.length : Int) - 1)) then (if (wrap64 ((t207.length : Int) - 1)) ≤ (t207.length : Int) then ((plexuslaw03_check.f k t206 (t203.length : Int) (t207.take ((wrap64 ((t207.length : Int) - 1)) : Int).toNat) (ji10) (rd t203 (ji10))).bind fun t240 => (if t240 = 6 then (some true) else (none))) else (none)) else (none)) else (none)) else (none))) else (none)) else (none))) else (none)))) else (none))) = some r := by first | (rw [hy223]; with_reducible exact H) | (have H2_ := (Option.bind_some _ _).symm.trans H; rw [hy223]; with_reducible exact H2_) | (have H2_ := (Option.bind_some _ _).symm.trans H; with_reducible exact H2_) | with_reducible exact H | (rw [hy223]; exact H) | exact H
                    have Ny223 := Aside0.mk hy223
                    clear hy223
                    replace H := Option.bind_eq_some_iff.mp H
                    obtain ⟨t226, A200, H⟩ := H
                    replace H : (if t226 = 6 then (if (t207.length : Int) = 0 then (if (t203.length : Int) = 1 then (some true) else (none)) else ((some (([] : List Int) : List Int)).bind fun y227 => (if y227.length + t207.length < 17592186044416 then ((some (y227 ++ t207 : List Int)).bind fun y230 => (if 0 ≤ (Int.tmod (wrap64 (a1_2)) (t207.length : Int)) then (if (Int.tmod (wrap64 (a1_2)) (t207.length : Int)) < (y230.length : Int) then ((plexuslaw03_check.f k t206 (t203.length : Int) (y230.set ((Int.tmod (wrap64 (a1_2)) (t207.length : Int)) : Int).toNat a2) (ji10) (rd t203 (ji10))).bind fun t234 => (if (Int.tmod (wrap64 (a1_2)) (t207.length : Int)) < (t207.length : Int) then (if ((t234 == 0) == (a2 == (rd t207 (Int.tmod (wrap64 (a1_2)) (t207.length : Int))))) = true then (if 0 ≤ (wrap64 ((t207.length : Int) - 1)) then (if (wrap64 ((t207.length : Int) - 1)) ≤ (t207.length : Int) then ((plexuslaw03_check.f k t206 (t203.length : Int) (t207.take ((wrap64 ((t207.length : Int) - 1)) : Int).toNat) (ji10) (rd t203 (ji10))).bind fun t240 => (if t240 = 6 then (some true) else (none))) else (none)) else (none)) else (none)) else (none))) else (none)) else (none))) else (none)))) else (none)) = some r := H
                    have A20 := Aside0.mk A200
                    clear A200
                    by_cases c21 : t226 = 6
                    · rw [if_pos c21] at H
                      have c21b0 : (t226 == 6) = true := beq_iff_eq.mpr c21
                      have c21b1 : (t226 != 6) = false := bne_eq_false_iff_eq.mpr c21
                      clear c21
                      by_cases c22 : (t207.length : Int) = 0
                      · rw [if_pos c22] at H
                        have c22b0 : ((t207.length : Int) == 0) = true := beq_iff_eq.mpr c22
                        have c22b1 : ((t207.length : Int) != 0) = false := bne_eq_false_iff_eq.mpr c22
                        clear c22
                        by_cases c23 : (t203.length : Int) = 1
                        · rw [if_pos c23] at H
                          have c23b0 : ((t203.length : Int) == 1) = true := beq_iff_eq.mpr c23
                          have c23b1 : ((t203.length : Int) != 1) = false := bne_eq_false_iff_eq.mpr c23
                          clear c23
                          obtain rfl := Option.some.inj H
                          go_enter Try.func17, Try.ntmps17
                          try go_wp2_with (first | ((with_reducible refine gate_dst (N := 4) rfl ?_); (try (refine gate_guard (by rfl) ?_; dsimp only)); refine box_event ?hg (N := 4) ?hd (cs := #[.int .u16 a1_0, .int .u16 a1_1, .int .u16 a1_2]) (t := 76) ?hr ?_; (case hd => rfl); (case hg => rfl); (case hr => first | (go_simp; done) | (go_simp; rfl)); intro gb201 hg w24 hbox hb; have n0_ := Aside0.mk (below_step (by repeat (first | (with_reducible first | exact HB.out | apply below_alloc | apply pw_below_drewN | apply below_drew1) | exact HB.out)) hb); have n1_ := Aside0.mk (hbox); have n2_ := Aside0.mk ((by rw [hg]; exact (below_size (by repeat (first | (with_reducible first | exact HB.out | apply below_alloc | apply pw_below_drewN | apply below_drew1) | exact HB.out))) : w.heap.size ≤ gb201)); have n3_ := Aside0.mk ((by rw [hg]; exact (below_size (by repeat (first | (with_reducible first | exact HB.out | apply below_alloc | apply pw_below_drewN | apply below_drew1) | exact HB.out))) : w.heap.size ≤ gb201)); clear HB; have HB := n0_; have BK201 := n1_; have GW201 := n2_; have GE201 := n3_; clear n0_ n1_ n2_ n3_; clear hb hbox hg) | ((with_reducible refine gate_callee (f := 55) rfl ?_); refine goesL_ (some 16) rfl rfl Try.func55 (by kernel_rfl) rfl #[] rfl (by (try simp only [List.map_toArray, List.map_cons, List.map_nil]); first | done | rfl | (simp only [List.length_drop, List.length_take]; rfl)) ?_; (with_reducible refine (plexuslaw03_examples.calls k  true _ A4.out).mono ?_); rintro e w25 ⟨rfl, hb⟩; refine ⟨_, rfl, ?_⟩; have n0_ := Aside0.mk (blk_below (g := gb201) (o := .cells #[.int .u16 a1_0, .int .u16 a1_1, .int .u16 a1_2] 76 (0, 0)) (by (with_reducible repeat (first | refine blk_drewN ?_ _ | refine blk_drew ?_ | refine blk_alloc ?_ _)); exact BK201.out) hb); have n1_ := Aside0.mk (below_step (by repeat (first | (with_reducible first | exact HB.out | apply below_alloc | apply pw_below_drewN | apply below_drew1 | refine below_set ?_ GE201.out) | exact HB.out)) hb); clear BK201; clear HB; have BK201 := n0_; have HB := n1_; clear n0_ n1_; (try clear hb); (try clear hb2); (try clear hk); (try clear hi); have hcz26_0 : w25.cell? ⟨gb201, 0, none⟩ = some (.int .u16 a1_0) := (blk_cell BK201.out 0).trans rfl; have hcz26_1 : w25.cell? ⟨gb201, 1, none⟩ = some (.int .u16 a1_1) := (blk_cell BK201.out 1).trans rfl; have hcz26_2 : w25.cell? ⟨gb201, 2, none⟩ = some (.int .u16 a1_2) := (blk_cell BK201.out 2).trans rfl; have hfz26_0 := blk_frozen BK201.out 0; have hfz26_1 := blk_frozen BK201.out 1; have hfz26_2 := blk_frozen BK201.out 2) | ((with_reducible refine gate_callee (f := 58) rfl ?_); refine goesL_ (some 25) rfl rfl Try.func58 (by kernel_rfl) rfl #[.slice A0 l0.length c0, .int .i64 (wrap64 (1 + (wrap64 (Int.tmod a1_0 300))))] rfl (by (try simp only [List.map_toArray, List.map_cons, List.map_nil]); first | done | rfl | (simp only [List.length_drop, List.length_take]; rfl)) ?_; (with_reducible refine (plexusref03_Grown.calls k _ _ l0 (wrap64 (1 + (wrap64 (Int.tmod a1_0 300)))) t203 _ ?side1 ?side2 A6.out).mono ?_); (case side1 => repeat (first | exact (Kd.C_below HR0.out HB.out) | (with_reducible refine Kd.C_alloc ?_ _) | (with_reducible refine Kd.C_drewN ?_ _) | (with_reducible refine Kd.C_drew ?_))); (case side2 => exact HC0.out); rintro e w27 ⟨v204, rfl, ho0, hb⟩; refine ⟨_, rfl, ?_⟩; have n0_ := Aside0.mk (Kd.R_lower ho0 (below_size (by repeat (first | (with_reducible first | exact HB.out | apply below_alloc | apply pw_below_drewN | apply below_drew1 | refine below_set ?_ GE201.out) | exact HB.out)))); have n1_ := Aside0.mk (blk_below (g := gb201) (o := .cells #[.int .u16 a1_0, .int .u16 a1_1, .int .u16 a1_2] 76 (0, 0)) (by (with_reducible repeat (first | refine blk_drewN ?_ _ | refine blk_drew ?_ | refine blk_alloc ?_ _)); exact BK201.out) hb); have n2_ := Aside0.mk (below_step (by repeat (first | (with_reducible first | exact HB.out | apply below_alloc | apply pw_below_drewN | apply below_drew1 | refine below_set ?_ GE201.out) | exact HB.out)) hb); clear BK201; clear HB; have HO205 := n0_; have BK201 := n1_; have HB := n2_; clear n0_ n1_ n2_; (try clear hb); (try clear hb2); (try clear hk); (try clear hi); (try clear ho0); have hcz28_0 : w27.cell? ⟨gb201, 0, none⟩ = some (.int .u16 a1_0) := (blk_cell BK201.out 0).trans rfl; have hcz28_1 : w27.cell? ⟨gb201, 1, none⟩ = some (.int .u16 a1_1) := (blk_cell BK201.out 1).trans rfl; have hcz28_2 : w27.cell? ⟨gb201, 2, none⟩ = some (.int .u16 a1_2) := (blk_cell BK201.out 2).trans rfl; have hfz28_0 := blk_frozen BK201.out 0; have hfz28_1 := blk_frozen BK201.out 1; have hfz28_2 := blk_frozen BK201.out 2; obtain ⟨Ao29, co29, eo29⟩ := Kd.R_slice HO205.out; subst eo29) | ((with_reducible refine gate_callee (f := 59) rfl ?_); refine goesL_ (some 33) rfl rfl Try.func59 (by kernel_rfl) rfl #[.slice Ao29 t203.length co29] rfl (by (try simp only [List.map_toArray, List.map_cons, List.map_nil]); first | done | rfl | (simp only [List.length_drop, List.length_take]; rfl)) ?_; (with_reducible refine (seal_Root.calls k _ _ t203 t206 _ ?side1 ?side2 A8.out).mono ?_); (case side1 => repeat (first | exact (Kd.R_reads' HO205.out).2.2 | (with_reducible refine Kd.C_alloc ?_ _) | (with_reducible refine Kd.C_drewN ?_ _) | (with_reducible refine Kd.C_drew ?_))); (case side2 => exact (Kd.R_reads' HO205.out).2.1); rintro e w30 ⟨rfl, hb⟩; refine ⟨_, rfl, ?_⟩; have n0_ := Aside0.mk (Kd.R_below (by (with_reducible repeat (first | apply Kd.R_alloc | apply Kd.R_drewN | apply Kd.R_drew)); exact HO205.out) hb); have n1_ := Aside0.mk (blk_below (g := gb201) (o := .cells #[.int .u16 a1_0, .int .u16 a1_1, .int .u16 a1_2] 76 (0, 0)) (by (with_reducible repeat (first | refine blk_drewN ?_ _ | refine blk_drew ?_ | refine blk_alloc ?_ _)); exact BK201.out) hb); have n2_ := Aside0.mk (below_step (by repeat (first | (with_reducible first | exact HB.out | apply below_alloc | apply pw_below_drewN | apply below_drew1 | refine below_set ?_ GE201.out) | exact HB.out)) hb); clear HO205; clear BK201; clear HB; have HO205 := n0_; have BK201 := n1_; have HB := n2_; clear n0_ n1_ n2_; (try clear hb); (try clear hb2); (try clear hk); (try clear hi)) | ((with_reducible refine gate_callee (f := 60) rfl ?_); refine goesL_ (some 36) rfl rfl Try.func60 (by kernel_rfl) rfl #[.slice Ao29 t203.length co29, .int .i64 ji10] rfl (by (try simp only [List.map_toArray, List.map_cons, List.map_nil]); first | done | (simp only [hji10]; rfl) | rfl | (simp only [List.length_drop, List.length_take]; rfl)) ?_; (with_reducible refine (plexuslaw03_opened.calls k _ _ t203 ji10 t207 t210 _ ?side1 ?side2 A9.out).mono ?_); (case side1 => repeat (first | exact (Kd.R_reads' HO205.out).2.2 | (with_reducible refine Kd.C_alloc ?_ _) | (with_reducible refine Kd.C_drewN ?_ _) | (with_reducible refine Kd.C_drew ?_))); (case side2 => exact (Kd.R_reads' HO205.out).2.1); rintro e w31 ⟨v208, rfl, ho0, hb⟩; refine ⟨_, rfl, ?_⟩; have n0_ := Aside0.mk (Kd.R_elder' (by (with_reducible repeat (first | apply Kd.R_alloc | apply Kd.R_drewN | apply Kd.R_drew)); exact HO205.out) (Kd.R_base ho0) hb); have n1_ := Aside0.mk (Kd.R_lower (Kd.R_new' ho0 (Kd.R_lt (by (with_reducible repeat (first | apply Kd.R_alloc | apply Kd.R_drewN | apply Kd.R_drew)); exact HO205.out))) (below_size (by repeat (first | (with_reducible first | exact HB.out | apply below_alloc | apply pw_below_drewN | apply below_drew1 | refine below_set ?_ GE201.out) | exact HB.out)))); have n2_ := Aside0.mk (blk_below (g := gb201) (o := .cells #[.int .u16 a1_0, .int .u16 a1_1, .int .u16 a1_2] 76 (0, 0)) (by (with_reducible repeat (first | refine blk_drewN ?_ _ | refine blk_drew ?_ | refine blk_alloc ?_ _)); exact BK201.out) hb); have n3_ := Aside0.mk (below_step (by repeat (first | (with_reducible first | exact HB.out | apply below_alloc | apply pw_below_drewN | apply below_drew1 | refine below_set ?_ GE201.out) | exact HB.out)) hb); clear HO205; clear BK201; clear HB; have HO205 := n0_; have HO209 := n1_; have BK201 := n2_; have HB := n3_; clear n0_ n1_ n2_ n3_; (try clear hb); (try clear hb2); (try clear hk); (try clear hi); (try clear ho0)) | ((with_reducible refine gate_dst (N := 11) rfl ?_); (try (refine gate_guard (by rfl) ?_; dsimp only)); refine box_event ?hg (N := 11) ?hd (cs := #[.slice none 0 0, .int .i64 0]) (t := 80) ?hr ?_; (case hd => rfl); (case hg => rfl); (case hr => first | (go_simp; done) | (go_simp; rfl)); intro gb211 hg w32 hbox hb; have n0_ := Aside0.mk (Kd.R_below (by (with_reducible repeat (first | apply Kd.R_alloc | apply Kd.R_drewN | apply Kd.R_drew)); exact HO205.out) hb); have n1_ := Aside0.mk (Kd.R_below (by (with_reducible repeat (first | apply Kd.R_alloc | apply Kd.R_drewN | apply Kd.R_drew)); exact HO209.out) hb); have n2_ := Aside0.mk (blk_below (g := gb201) (o := .cells #[.int .u16 a1_0, .int .u16 a1_1, .int .u16 a1_2] 76 (0, 0)) (by (with_reducible repeat (first | refine blk_drewN ?_ _ | refine blk_drew ?_ | refine blk_alloc ?_ _)); exact BK201.out) hb); have n3_ := Aside0.mk (below_step (by repeat (first | (with_reducible first | exact HB.out | apply below_alloc | apply pw_below_drewN | apply below_drew1 | refine below_set ?_ GE201.out) | exact HB.out)) hb); have n4_ := Aside0.mk (hbox); have n5_ := Aside0.mk ((by rw [hg]; exact (below_size (by repeat (first | (with_reducible first | exact HB.out | apply below_alloc | apply pw_below_drewN | apply below_drew1 | refine below_set ?_ GE201.out) | exact HB.out))) : w.heap.size ≤ gb211)); have n6_ := Aside0.mk ((by rw [hg]; exact (below_size (by repeat (first | (with_reducible first | exact HB.out | apply below_alloc | apply pw_below_drewN | apply below_drew1 | refine below_set ?_ GE201.out) | exact HB.out))) : w.heap.size ≤ gb211)); have n7_ := Aside0.mk ((by rw [hg]; exact Nat.ne_of_lt (blk_lt (g := gb201) (o := .cells #[.int .u16 a1_0, .int .u16 a1_1, .int .u16 a1_2] 76 (0, 0)) (by (with_reducible repeat (first | refine blk_drewN ?_ _ | refine blk_drew ?_ | refine blk_alloc ?_ _)); exact BK201.out)) : gb201 ≠ gb211)); have n8_ := Aside0.mk ((by rw [hg]; exact Nat.ne_of_gt (blk_lt (g := gb201) (o := .cells #[.int .u16 a1_0, .int .u16 a1_1, .int .u16 a1_2] 76 (0, 0)) (by (with_reducible repeat (first | refine blk_drewN ?_ _ | refine blk_drew ?_ | refine blk_alloc ?_ _)); exact BK201.out)) : gb211 ≠ gb201)); clear HO205; clear HO209; clear BK201; clear HB; have HO205 := n0_; have HO209 := n1_; have BK201 := n2_; have HB := n3_; have BK211 := n4_; have GW211 := n5_; have GE211 := n6_; have NB201_211 := n7_; have NB211_201 := n8_; clear n0_ n1_ n2_ n3_ n4_ n5_ n6_ n7_ n8_; clear hb hbox hg; obtain ⟨Ao33, co33, eo33⟩ := Kd.R_slice HO209.out; subst eo33; have hnb34 := NB211_201.out; have hnc34 := NB201_211.out; have hcz35_0 : w32.cell? ⟨gb211, 0, none⟩ = some (.slice none 0 0) := (blk_cell BK211.out 0).trans rfl; have hcz35_1 : w32.cell? ⟨gb211, 1, none⟩ = some (.int .i64 0) := (blk_cell BK211.out 1).trans rfl; have hfz35_0 := blk_frozen BK211.out 0; have hfz35_1 := blk_frozen BK211.out 1; have p212 : 0 ≤ ((ji10) : Int) := of_decide_eq_true (by first | (with_reducible assumption) | assumption); have q212 : (ji10) < (t203.length : Int) := of_decide_eq_true (by first | (with_reducible assumption) | assumption); obtain ⟨ad212, e212, hx212_0⟩ := Kd.at_int (Kd.R_reads' HO205.out).2.2 (ji10) p212 q212; cases e212; have hn212_0 : ad212.block ≠ gb211 := Kd.own_blk (Kd.R_ne HO205.out BK211.out (by decide)); have hn212_1 : ad212.block ≠ gb211 := Kd.own_blk (Kd.R_ne HO205.out BK211.out (by decide)); replace hx212_0 := (cell_far (p := ⟨gb211, 0, none⟩) (by first | (rw [add_block]; exact hn212_0) | (show (Addr.add _ _).block ≠ _; rw [add_block]; exact hn212_0) | exact hn212_0) (.slice Ao33 t207.length co33)).trans hx212_0; replace hx212_0 := (cell_far (p := ⟨gb211, 1, none⟩) (by first | (rw [add_block]; exact hn212_1) | (show (Addr.add _ _).block ≠ _; rw [add_block]; exact hn212_1) | exact hn212_1) (.int .i64 t210)).trans hx212_0; clear hn212_0; clear hn212_1; replace p212 := eq_true p212; replace q212 := eq_true q212) | ((with_reducible refine gate_dst (N := 12) rfl ?_); (try (refine gate_guard (by rfl) ?_; dsimp only)); refine box_event ?hg (N := 12) ?hd (cs := #[.int .i64 0, .int .u64 0]) (t := 83) ?hr ?_; (case hd => rfl); (case hg => rfl); (case hr => first | (go_simp; done) | (go_simp; rfl)); intro gb213 hg w36 hbox hb; have n0_ := Aside0.mk (Kd.R_below (by (with_reducible repeat (first | apply Kd.R_alloc | apply Kd.R_drewN | apply Kd.R_drew)); exact (Kd.R_mono (Kd.R_far (p := ⟨gb211, 1, none⟩) (Kd.R_far (p := ⟨gb211, 0, none⟩) (Kd.R_types HO205.out BK211.out (by decide)) (fun _ hk => hk.2) (.slice Ao33 t207.length co33)) (fun _ hk => hk.2) (.int .i64 t210)) (fun _ h_ => h_.1))) hb); have n1_ := Aside0.mk (Kd.R_below (by (with_reducible repeat (first | apply Kd.R_alloc | apply Kd.R_drewN | apply Kd.R_drew)); exact (Kd.R_mono (Kd.R_far (p := ⟨gb211, 1, none⟩) (Kd.R_far (p := ⟨gb211, 0, none⟩) (Kd.R_types HO209.out BK211.out (by decide)) (fun _ hk => hk.2) (.slice Ao33 t207.length co33)) (fun _ hk => hk.2) (.int .i64 t210)) (fun _ h_ => h_.1))) hb); have n2_ := Aside0.mk (blk_below (g := gb201) (o := .cells #[.int .u16 a1_0, .int .u16 a1_1, .int .u16 a1_2] 76 (0, 0)) (by (with_reducible repeat (first | refine blk_drewN ?_ _ | refine blk_drew ?_ | refine blk_alloc ?_ _)); refine blk_far ?_ NB201_211.out _; (with_reducible repeat (first | refine blk_drewN ?_ _ | refine blk_drew ?_ | refine blk_alloc ?_ _)); refine blk_far ?_ NB201_211.out _; (with_reducible repeat (first | refine blk_drewN ?_ _ | refine blk_drew ?_ | refine blk_alloc ?_ _)); exact BK201.out) hb); have n3_ := Aside0.mk (blk_below (g := gb211) (o := .cells #[.slice Ao33 t207.length co33, .int .i64 t210] 80 (0, 0)) (by (with_reducible repeat (first | refine blk_drewN ?_ _ | refine blk_drew ?_ | refine blk_alloc ?_ _)); refine blk_put (cs := #[.slice Ao33 t207.length co33, .int .i64 0]) ?_ 1 _ rfl; (with_reducible repeat (first | refine blk_drewN ?_ _ | refine blk_drew ?_ | refine blk_alloc ?_ _)); refine blk_put (cs := #[.slice none 0 0, .int .i64 0]) ?_ 0 _ rfl; (with_reducible repeat (first | refine blk_drewN ?_ _ | refine blk_drew ?_ | refine blk_alloc ?_ _)); exact BK211.out) hb); have n4_ := Aside0.mk (below_step (by repeat (first | (with_reducible first | exact HB.out | apply below_alloc | apply pw_below_drewN | apply below_drew1 | refine below_set ?_ GE201.out | refine below_set ?_ GE211.out) | exact HB.out)) hb); have n5_ := Aside0.mk (hbox); have n6_ := Aside0.mk ((by rw [hg]; exact (below_size (by repeat (first | (with_reducible first | exact HB.out | apply below_alloc | apply pw_below_drewN | apply below_drew1 | refine below_set ?_ GE201.out | refine below_set ?_ GE211.out) | exact HB.out))) : w.heap.size ≤ gb213)); have n7_ := Aside0.mk ((by rw [hg]; exact (below_size (by repeat (first | (with_reducible first | exact HB.out | apply below_alloc | apply pw_below_drewN | apply below_drew1 | refine below_set ?_ GE201.out | refine below_set ?_ GE211.out) | exact HB.out))) : w.heap.size ≤ gb213)); have n8_ := Aside0.mk ((by rw [hg]; exact Nat.ne_of_lt (blk_lt (g := gb201) (o := .cells #[.int .u16 a1_0, .int .u16 a1_1, .int .u16 a1_2] 76 (0, 0)) (by (with_reducible repeat (first | refine blk_drewN ?_ _ | refine blk_drew ?_ | refine blk_alloc ?_ _)); refine blk_far ?_ NB201_211.out _; (with_reducible repeat (first | refine blk_drewN ?_ _ | refine blk_drew ?_ | refine blk_alloc ?_ _)); refine blk_far ?_ NB201_211.out _; (with_reducible repeat (first | refine blk_drewN ?_ _ | refine blk_drew ?_ | refine blk_alloc ?_ _)); exact BK201.out)) : gb201 ≠ gb213)); have n9_ := Aside0.mk ((by rw [hg]; exact Nat.ne_of_gt (blk_lt (g := gb201) (o := .cells #[.int .u16 a1_0, .int .u16 a1_1, .int .u16 a1_2] 76 (0, 0)) (by (with_reducible repeat (first | refine blk_drewN ?_ _ | refine blk_drew ?_ | refine blk_alloc ?_ _)); refine blk_far ?_ NB201_211.out _; (with_reducible repeat (first | refine blk_drewN ?_ _ | refine blk_drew ?_ | refine blk_alloc ?_ _)); refine blk_far ?_ NB201_211.out _; (with_reducible repeat (first | refine blk_drewN ?_ _ | refine blk_drew ?_ | refine blk_alloc ?_ _)); exact BK201.out)) : gb213 ≠ gb201)); have n10_ := Aside0.mk ((by rw [hg]; exact Nat.ne_of_lt (blk_lt (g := gb211) (o := .cells #[.slice Ao33 t207.length co33, .int .i64 t210] 80 (0, 0)) (by (with_reducible repeat (first | refine blk_drewN ?_ _ | refine blk_drew ?_ | refine blk_alloc ?_ _)); refine blk_put (cs := #[.slice Ao33 t207.length co33, .int .i64 0]) ?_ 1 _ rfl; (with_reducible repeat (first | refine blk_drewN ?_ _ | refine blk_drew ?_ | refine blk_alloc ?_ _)); refine blk_put (cs := #[.slice none 0 0, .int .i64 0]) ?_ 0 _ rfl; (with_reducible repeat (first | refine blk_drewN ?_ _ | refine blk_drew ?_ | refine blk_alloc ?_ _)); exact BK211.out)) : gb211 ≠ gb213)); have n11_ := Aside0.mk ((by rw [hg]; exact Nat.ne_of_gt (blk_lt (g := gb211) (o := .cells #[.slice Ao33 t207.length co33, .int .i64 t210] 80 (0, 0)) (by (with_reducible repeat (first | refine blk_drewN ?_ _ | refine blk_drew ?_ | refine blk_alloc ?_ _)); refine blk_put (cs := #[.slice Ao33 t207.length co33, .int .i64 0]) ?_ 1 _ rfl; (with_reducible repeat (first | refine blk_drewN ?_ _ | refine blk_drew ?_ | refine blk_alloc ?_ _)); refine blk_put (cs := #[.slice none 0 0, .int .i64 0]) ?_ 0 _ rfl; (with_reducible repeat (first | refine blk_drewN ?_ _ | refine blk_drew ?_ | refine blk_alloc ?_ _)); exact BK211.out)) : gb213 ≠ gb211)); clear HO205; clear HO209; clear BK201; clear BK211; clear HB; have HO205 := n0_; have HO209 := n1_; have BK201 := n2_; have BK211 := n3_; have HB := n4_; have BK213 := n5_; have GW213 := n6_; have GE213 := n7_; have NB201_213 := n8_; have NB213_201 := n9_; have NB211_213 := n10_; have NB213_211 := n11_; clear n0_ n1_ n2_ n3_ n4_ n5_ n6_ n7_ n8_ n9_ n10_ n11_; clear hb hbox hg; have hnb37 := NB213_201.out; have hnc37 := NB201_213.out; have hnb38 := NB213_211.out; have hnc38 := NB211_213.out; have hcz39_0 : w36.cell? ⟨gb213, 0, none⟩ = some (.int .i64 0) := (blk_cell BK213.out 0).trans rfl; have hcz39_1 : w36.cell? ⟨gb213, 1, none⟩ = some (.int .u64 0) := (blk_cell BK213.out 1).trans rfl; have hfz39_0 := blk_frozen BK213.out 0; have hfz39_1 := blk_frozen BK213.out 1))
                          have n0_ : Aside0 (Kd.R (Kd.int .u64) 72 ((w36.setCell ⟨gb213, 0, none⟩ (.int .i64 ji10)).setCell ⟨gb213, 1, none⟩ (.int .u64 (rd t203 (ji10)))) w.heap.size (fun k_ => some k_ ≠ (.slice Ao33 t207.length co33 : Value).ownBlock) (.slice (some ad212) t203.length co29) t203) := ⟨by (with_reducible repeat (first | apply Kd.R_alloc | apply Kd.R_drewN | apply Kd.R_drew)); exact Kd.R_mono (Kd.R_far (p := ⟨gb213, 1, none⟩) (Kd.R_far (p := ⟨gb213, 0, none⟩) (Kd.R_types HO205.out BK213.out (by decide)) (fun _ hk => hk.2) (.int .i64 ji10)) (fun _ hk => hk.2) (.int .u64 (rd t203 (ji10)))) (fun _ hk => hk.1.2)⟩
                          have n1_ : Aside0 (Kd.R (Kd.int .u64) 72 ((w36.setCell ⟨gb213, 0, none⟩ (.int .i64 ji10)).setCell ⟨gb213, 1, none⟩ (.int .u64 (rd t203 (ji10)))) w.heap.size (fun k_ => some k_ ≠ (.slice (some ad212) t203.length co29 : Value).ownBlock) (.slice Ao33 t207.length co33) t207) := ⟨by (with_reducible repeat (first | apply Kd.R_alloc | apply Kd.R_drewN | apply Kd.R_drew)); exact Kd.R_mono (Kd.R_far (p := ⟨gb213, 1, none⟩) (Kd.R_far (p := ⟨gb213, 0, none⟩) (Kd.R_types HO209.out BK213.out (by decide)) (fun _ hk => hk.2) (.int .i64 ji10)) (fun _ hk => hk.2) (.int .u64 (rd t203 (ji10)))) (fun _ hk => hk.1.2)⟩
                          have n2_ : Aside0 (((w36.setCell ⟨gb213, 0, none⟩ (.int .i64 ji10)).setCell ⟨gb213, 1, none⟩ (.int .u64 (rd t203 (ji10)))).heap[gb201]? = some (.cells #[.int .u16 a1_0, .int .u16 a1_1, .int .u16 a1_2] 76 (0, 0))) := ⟨by (with_reducible repeat (first | refine blk_drewN ?_ _ | refine blk_drew ?_ | refine blk_alloc ?_ _)); refine blk_far ?_ NB201_213.out _; (with_reducible repeat (first | refine blk_drewN ?_ _ | refine blk_drew ?_ | refine blk_alloc ?_ _)); refine blk_far ?_ NB201_213.out _; (with_reducible repeat (first | refine blk_drewN ?_ _ | refine blk_drew ?_ | refine blk_alloc ?_ _)); exact BK201.out⟩
                          have n3_ : Aside0 (((w36.setCell ⟨gb213, 0, none⟩ (.int .i64 ji10)).setCell ⟨gb213, 1, none⟩ (.int .u64 (rd t203 (ji10)))).heap[gb211]? = some (.cells #[.slice Ao33 t207.length co33, .int .i64 t210] 80 (0, 0))) := ⟨by (with_reducible repeat (first | refine blk_drewN ?_ _ | refine blk_drew ?_ | refine blk_alloc ?_ _)); refine blk_far ?_ NB211_213.out _; (with_reducible repeat (first | refine blk_drewN ?_ _ | refine blk_drew ?_ | refine blk_alloc ?_ _)); refine blk_far ?_ NB211_213.out _; (with_reducible repeat (first | refine blk_drewN ?_ _ | refine blk_drew ?_ | refine blk_alloc ?_ _)); exact BK211.out⟩
                          have n4_ : Aside0 (((w36.setCell ⟨gb213, 0, none⟩ (.int .i64 ji10)).setCell ⟨gb213, 1, none⟩ (.int .u64 (rd t203 (ji10)))).heap[gb213]? = some (.cells #[.int .i64 ji10, .int .u64 (rd t203 (ji10))] 83 (0, 0))) := ⟨by (with_reducible repeat (first | refine blk_drewN ?_ _ | refine blk_drew ?_ | refine blk_alloc ?_ _)); refine blk_put (cs := #[.int .i64 ji10, .int .u64 0]) ?_ 1 _ rfl; (with_reducible repeat (first | refine blk_drewN ?_ _ | refine blk_drew ?_ | refine blk_alloc ?_ _)); refine blk_put (cs := #[.int .i64 0, .int .u64 0]) ?_ 0 _ rfl; (with_reducible repeat (first | refine blk_drewN ?_ _ | refine blk_drew ?_ | refine blk_alloc ?_ _)); exact BK213.out⟩
                          have n5_ : Aside0 (Below w.heap.size w ((w36.setCell ⟨gb213, 0, none⟩ (.int .i64 ji10)).setCell ⟨gb213, 1, none⟩ (.int .u64 (rd t203 (ji10))))) := ⟨by repeat (first | (with_reducible first | exact HB.out | apply below_alloc | apply pw_below_drewN | apply below_drew1 | refine below_set ?_ GE201.out | refine below_set ?_ GE211.out | refine below_set ?_ GE213.out) | exact HB.out)⟩
                          (try clear HO205)
                          (try clear HO209)
                          (try clear BK201)
                          (try clear BK211)
                          (try clear BK213)
                          (try clear HB)
                          generalize ((w36.setCell ⟨gb213, 0, none⟩ (.int .i64 ji10)).setCell ⟨gb213, 1, none⟩ (.int .u64 (rd t203 (ji10)))) = w40 at n0_ n1_ n2_ n3_ n4_ n5_ ⊢
                          have HO205 := n0_
                          have HO209 := n1_
                          have BK201 := n2_
                          have BK211 := n3_
                          have BK213 := n4_
                          have HB := n5_
                          clear n0_ n1_ n2_ n3_ n4_ n5_
                          have n0_ := Aside0.mk (Kd.R_drew HO205.out)
                          have n1_ := Aside0.mk (Kd.R_drew HO209.out)
                          have n2_ := Aside0.mk (blk_drew BK201.out)
                          have n3_ := Aside0.mk (blk_drew BK211.out)
                          have n4_ := Aside0.mk (blk_drew BK213.out)
                          have n5_ := Aside0.mk (below_drew1 HB.out)
                          clear HO205
                          clear HO209
                          clear BK201
                          clear BK211
                          clear BK213
                          clear HB
                          have HO205 := n0_
                          have HO209 := n1_
                          have BK201 := n2_
                          have BK211 := n3_
                          have BK213 := n4_
                          have HB := n5_
                          clear n0_ n1_ n2_ n3_ n4_ n5_
                          have p216 : 0 ≤ ((ji10) : Int) := of_decide_eq_true (by first | (with_reducible assumption) | assumption)
                          have q216 : (ji10) < (t203.length : Int) := of_decide_eq_true (by first | (with_reducible assumption) | assumption)
                          obtain ⟨ad216, e216, hx216_0⟩ := Kd.at_int (Kd.R_reads' HO205.out).2.2 (ji10) p216 q216
                          obtain rfl : ad212 = ad216 := (by injection e216)
                          replace p216 := eq_true p216
                          replace q216 := eq_true q216
                          refine start_ (n := 34) (S := fun w' => w'.cell? ⟨gb211, 0, none⟩ = some (.slice Ao33 t207.length co33) ∧ w'.cell? ⟨gb211, 1, none⟩ = some (.int .i64 t210) ∧ w'.cell? ⟨gb213, 0, none⟩ = some (.int .i64 ji10) ∧ w'.cell? ⟨gb213, 1, none⟩ = some (.int .u64 (rd t203 (ji10))) ∧ w'.cell? (ad212.add ((ji10)).toNat) = some (.int .u64 (rd t203 (ji10)))) (ds := []) #[false, false, false, false, false, false, false, false, false, false, false, false, false, false, false, false, false, false, false, false, false, false, false, false, false, false, false, false, false, false, false, false, false, false] (by kernel_rfl) rfl rfl ⟨(blk_cell BK211.out 0).trans rfl, (blk_cell BK211.out 1).trans rfl, (blk_cell BK213.out 0).trans rfl, (blk_cell BK213.out 1).trans rfl, hx216_0⟩ (fun hHeld => ?_); refine with_tabW plexuslaw03_SealOpens.tab8 plexuslaw03_SealOpens.bits8 (fun HT_ HW_ => ?_)
                          generalize w40.drew = w41 at HO205 HO209 BK201 BK211 BK213 HB hx216_0 hHeld ⊢
                          refine pure_ (i := 0) (N := some 43) (v := ?_) (a' := ?_) #[true, false, false, false, false, false, false, false, false, false, false, false, false, false, false, false, false, false, false, false, false, false, false, false, false, false, false, false, false, false, false, false, false, false] rfl rfl (any_of HT_.out (by kernel_rfl)) (fun _ _ _ h => h) (Or.inl ⟨by rfl, ?_⟩) ?_ ?_
                          rotate_left
                          · intro w'
                            go_simp
                            with_reducible rfl
                          rotate_left
                          · simp only [Act.put, List.setIfInBounds_toArray, List.set_cons_zero, List.set_cons_succ, i64_w, i32_w]
                            rfl
                          refine take_ (i := 1) (N := some 44) (v := ?_) (a' := ?_) #[true, true, false, false, false, false, false, false, false, false, false, false, false, false, false, false, false, false, false, false, false, false, false, false, false, false, false, false, false, false, false, false, false, false] rfl rfl (take_ofW HT_.out HW_.out (by kernel_rfl)) (fun _ _ _ h => h) (Or.inl ⟨by rfl, ?_⟩) hHeld ?_ ?_
                          rotate_left
                          · rintro w' ⟨s0, s1, s2, s3, s4⟩
                            go_simp
                            with_reducible rfl
                          rotate_left
                          · simp only [Act.put, List.setIfInBounds_toArray, List.set_cons_zero, List.set_cons_succ, i64_w, i32_w]
                            rfl
                          refine pure_ (i := 2) (N := some 45) (v := ?_) (a' := ?_) #[true, true, true, false, false, false, false, false, false, false, false, false, false, false, false, false, false, false, false, false, false, false, false, false, false, false, false, false, false, false, false, false, false, false] rfl rfl (any_of HT_.out (by kernel_rfl)) (fun _ _ _ h => h) (Or.inl ⟨by rfl, ?_⟩) ?_ ?_
                          rotate_left
                          · intro w'
                            go_simp
                            with_reducible rfl
                          rotate_left
                          · simp only [Act.put, List.setIfInBounds_toArray, List.set_cons_zero, List.set_cons_succ, i64_w, i32_w]
                            rfl
                          refine pure_ (i := 3) (N := some 46) (v := ?_) (a' := ?_) #[true, true, true, true, false, false, false, false, false, false, false, false, false, false, false, false, false, false, false, false, false, false, false, false, false, false, false, false, false, false, false, false, false, false] rfl rfl (any_of HT_.out (by kernel_rfl)) (fun _ _ _ h => h) (Or.inl ⟨by rfl, ?_⟩) ?_ ?_
                          rotate_left
                          · intro w'
                            go_simp
                            with_reducible rfl
                          rotate_left
                          · simp only [Act.put, List.setIfInBounds_toArray, List.set_cons_zero, List.set_cons_succ, i64_w, i32_w]
                            rfl
                          refine pure_ (i := 4) (N := some 47) (v := ?_) (a' := ?_) #[true, true, true, true, true, false, false, false, false, false, false, false, false, false, false, false, false, false, false, false, false, false, false, false, false, false, false, false, false, false, false, false, false, false] rfl rfl (any_of HT_.out (by kernel_rfl)) (fun _ _ _ h => h) (Or.inl ⟨by rfl, ?_⟩) ?_ ?_
                          rotate_left
                          · intro w'
                            go_simp
                            with_reducible rfl
                          rotate_left
                          · simp only [Act.put, List.setIfInBounds_toArray, List.set_cons_zero, List.set_cons_succ, i64_w, i32_w]
                            rfl
                          refine pure_ (i := 5) (N := some 48) (v := ?_) (a' := ?_) #[true, true, true, true, true, true, false, false, false, false, false, false, false, false, false, false, false, false, false, false, false, false, false, false, false, false, false, false, false, false, false, false, false, false] rfl rfl (any_of HT_.out (by kernel_rfl)) (fun _ _ _ h => h) (Or.inl ⟨by rfl, ?_⟩) ?_ ?_
                          rotate_left
                          · intro w'
                            go_simp
                            with_reducible rfl
                          rotate_left
                          · simp only [Act.put, List.setIfInBounds_toArray, List.set_cons_zero, List.set_cons_succ, i64_w, i32_w]
                            rfl
                          refine pure_ (i := 6) (N := some 49) (v := ?_) (a' := ?_) #[true, true, true, true, true, true, true, false, false, false, false, false, false, false, false, false, false, false, false, false, false, false, false, false, false, false, false, false, false, false, false, false, false, false] rfl rfl (any_of HT_.out (by kernel_rfl)) (fun _ _ _ h => h) (Or.inl ⟨by rfl, ?_⟩) ?_ ?_
                          rotate_left
                          · intro w'
                            go_simp
                            with_reducible rfl
                          rotate_left
                          · simp only [Act.put, List.setIfInBounds_toArray, List.set_cons_zero, List.set_cons_succ, i64_w, i32_w]
                            rfl
                          refine pure_ (i := 7) (N := some 50) (v := ?_) (a' := ?_) #[true, true, true, true, true, true, true, true, false, false, false, false, false, false, false, false, false, false, false, false, false, false, false, false, false, false, false, false, false, false, false, false, false, false] rfl rfl (any_of HT_.out (by kernel_rfl)) (fun _ _ _ h => h) (Or.inl ⟨by rfl, ?_⟩) ?_ ?_
                          rotate_left
                          · intro w'
                            go_simp
                            with_reducible rfl
                          rotate_left
                          · simp only [Act.put, List.setIfInBounds_toArray, List.set_cons_zero, List.set_cons_succ, i64_w, i32_w]
                            rfl
                          refine take_ (i := 8) (N := some 51) (v := ?_) (a' := ?_) #[true, true, true, true, true, true, true, true, true, false, false, false, false, false, false, false, false, false, false, false, false, false, false, false, false, false, false, false, false, false, false, false, false, false] rfl rfl (take_ofW HT_.out HW_.out (by kernel_rfl)) (fun _ _ _ h => h) (Or.inl ⟨by rfl, ?_⟩) hHeld ?_ ?_
                          rotate_left
                          · rintro w' ⟨s0, s1, s2, s3, s4⟩
                            go_simp
                            with_reducible rfl
                          rotate_left
                          · simp only [Act.put, List.setIfInBounds_toArray, List.set_cons_zero, List.set_cons_succ, i64_w, i32_w]
                            rfl
                          refine pure_ (i := 9) (N := some 52) (v := ?_) (a' := ?_) #[true, true, true, true, true, true, true, true, true, true, false, false, false, false, false, false, false, false, false, false, false, false, false, false, false, false, false, false, false, false, false, false, false, false] rfl rfl (any_of HT_.out (by kernel_rfl)) (fun _ _ _ h => h) (Or.inl ⟨by rfl, ?_⟩) ?_ ?_
                          rotate_left
                          · intro w'
                            go_simp
                            with_reducible rfl
                          rotate_left
                          · simp only [Act.put, List.setIfInBounds_toArray, List.set_cons_zero, List.set_cons_succ, i64_w, i32_w]
                            rfl
                          refine take_ (i := 10) (N := some 53) (v := ?_) (a' := ?_) #[true, true, true, true, true, true, true, true, true, true, true, false, false, false, false, false, false, false, false, false, false, false, false, false, false, false, false, false, false, false, false, false, false, false] rfl rfl (take_ofW HT_.out HW_.out (by kernel_rfl)) (fun _ _ _ h => h) (Or.inl ⟨by rfl, ?_⟩) hHeld ?_ ?_
                          rotate_left
                          · rintro w' ⟨s0, s1, s2, s3, s4⟩
                            go_simp
                            with_reducible rfl
                          rotate_left
                          · simp only [Act.put, List.setIfInBounds_toArray, List.set_cons_zero, List.set_cons_succ, i64_w, i32_w]
                            rfl
                          refine one_ (i := 11) (N := some 54) #[true, true, true, true, true, true, true, true, true, true, true, true, false, false, false, false, false, false, false, false, false, false, false, false, false, false, false, false, false, false, false, false, false, false] rfl rfl (one_of HT_.out (by kernel_rfl)) (by decide) (fun K hK => ?_)
                          refine goes_ Try.func61 (by kernel_rfl) rfl #[.int .u64 t206, .agg #[.int .i64 (t203.length : Int), .slice Ao33 t207.length co33], .agg #[.int .i64 ji10, .int .u64 (rd t203 (ji10))]] (by rfl) rfl rfl (by (try simp only [List.map_toArray, List.map_cons, List.map_nil]); first | done | (simp only [hji10]; rfl) | rfl | (simp only [List.length_drop, List.length_take]; rfl)) ?_
                          with_reducible refine (plexuslaw03_check.calls k t206 (t203.length : Int) _ _ t207 ji10 (rd t203 (ji10)) t214 _ ?side1 ?side2 A14.out).mono ?_
                          (case side1 => repeat (first | exact (Kd.R_reads' HO209.out).2.2 | (with_reducible refine Kd.C_alloc ?_ _) | (with_reducible refine Kd.C_drewN ?_ _) | (with_reducible refine Kd.C_drew ?_)))
                          (case side2 => exact (Kd.R_reads' HO209.out).2.1)
                          rintro e w42 ⟨rfl, hb⟩
                          have HS4_ := (hb.cell (World.block_lt_of_cell? _ _ (hHeld.2.2.2.2))).trans (hHeld.2.2.2.2)
                          refine ⟨_, rfl, ?_⟩
                          have n0_ := Aside0.mk (Kd.R_below (by (with_reducible repeat (first | apply Kd.R_alloc | apply Kd.R_drewN | apply Kd.R_drew)); exact HO205.out) hb)
                          have n1_ := Aside0.mk (Kd.R_below (by (with_reducible repeat (first | apply Kd.R_alloc | apply Kd.R_drewN | apply Kd.R_drew)); exact HO209.out) hb)
                          have n2_ := Aside0.mk (blk_below (g := gb201) (o := .cells #[.int .u16 a1_0, .int .u16 a1_1, .int .u16 a1_2] 76 (0, 0)) (by (with_reducible repeat (first | refine blk_drewN ?_ _ | refine blk_drew ?_ | refine blk_alloc ?_ _)); exact BK201.out) hb)
                          have n3_ := Aside0.mk (blk_below (g := gb211) (o := .cells #[.slice Ao33 t207.length co33, .int .i64 t210] 80 (0, 0)) (by (with_reducible repeat (first | refine blk_drewN ?_ _ | refine blk_drew ?_ | refine blk_alloc ?_ _)); exact BK211.out) hb)
                          have n4_ := Aside0.mk (blk_below (g := gb213) (o := .cells #[.int .i64 ji10, .int .u64 (rd t203 (ji10))] 83 (0, 0)) (by (with_reducible repeat (first | refine blk_drewN ?_ _ | refine blk_drew ?_ | refine blk_alloc ?_ _)); exact BK213.out) hb)
                          have n5_ := Aside0.mk (below_step (by repeat (first | (with_reducible first | exact HB.out | apply below_alloc | apply pw_below_drewN | apply below_drew1 | refine below_set ?_ GE201.out | refine below_set ?_ GE211.out | refine below_set ?_ GE213.out) | exact HB.out)) hb)
                          clear HO205
                          clear HO209
                          clear BK201
                          clear BK211
                          clear BK213
                          clear HB
                          have HO205 := n0_
                          have HO209 := n1_
                          have BK201 := n2_
                          have BK211 := n3_
                          have BK213 := n4_
                          have HB := n5_
                          clear n0_ n1_ n2_ n3_ n4_ n5_
                          (try clear hb)
                          (try clear hb2)
                          (try clear hk)
                          (try clear hi)
                          refine hK.out _ _ ⟨(blk_cell BK211.out 0).trans rfl, (blk_cell BK211.out 1).trans rfl, (blk_cell BK213.out 0).trans rfl, (blk_cell BK213.out 1).trans rfl, HS4_⟩ (fun hHeld => ?_)
                          clear hK K
                          refine norm_ (a' := ?_) ?_ ?_
                          rotate_left
                          · show Act.put _ (some 54) _ = _
                            simp only [Act.put, List.setIfInBounds_toArray, List.set_cons_zero, List.set_cons_succ, i64_w, i32_w]
                            rfl
                          refine pure_ (i := 12) (N := some 55) (v := ?_) (a' := ?_) #[true, true, true, true, true, true, true, true, true, true, true, true, true, false, false, false, false, false, false, false, false, false, false, false, false, false, false, false, false, false, false, false, false, false] rfl rfl (any_of HT_.out (by kernel_rfl)) (fun _ _ _ h => h) (Or.inl ⟨by rfl, ?_⟩) ?_ ?_
                          rotate_left
                          · intro w'
                            go_simp
                            with_reducible rfl
                          rotate_left
                          · simp only [Act.put, List.setIfInBounds_toArray, List.set_cons_zero, List.set_cons_succ, i64_w, i32_w]
                            rfl
                          refine pure_ (i := 13) (N := some 56) (v := ?_) (a' := ?_) #[true, true, true, true, true, true, true, true, true, true, true, true, true, true, false, false, false, false, false, false, false, false, false, false, false, false, false, false, false, false, false, false, false, false] rfl rfl (any_of HT_.out (by kernel_rfl)) (fun _ _ _ h => h) (Or.inl ⟨by rfl, ?_⟩) ?_ ?_
                          rotate_left
                          · intro w'
                            go_simp
                            with_reducible rfl
                          rotate_left
                          · simp only [Act.put, List.setIfInBounds_toArray, List.set_cons_zero, List.set_cons_succ, i64_w, i32_w]
                            rfl
                          refine pure_ (i := 14) (N := some 57) (v := ?_) (a' := ?_) #[true, true, true, true, true, true, true, true, true, true, true, true, true, true, true, false, false, false, false, false, false, false, false, false, false, false, false, false, false, false, false, false, false, false] rfl rfl (any_of HT_.out (by kernel_rfl)) (fun _ _ _ h => h) (Or.inl ⟨by rfl, ?_⟩) ?_ ?_
                          rotate_left
                          · intro w'
                            go_simp
                            with_reducible rfl
                          rotate_left
                          · simp only [Act.put, List.setIfInBounds_toArray, List.set_cons_zero, List.set_cons_succ, i64_w, i32_w]
                            rfl
                          refine pure_ (i := 15) (N := some 58) (v := ?_) (a' := ?_) #[true, true, true, true, true, true, true, true, true, true, true, true, true, true, true, true, false, false, false, false, false, false, false, false, false, false, false, false, false, false, false, false, false, false] rfl rfl (any_of HT_.out (by kernel_rfl)) (fun _ _ _ h => h) (Or.inl ⟨by rfl, ?_⟩) ?_ ?_
                          rotate_left
                          · intro w'
                            go_simp
                            with_reducible rfl
                          rotate_left
                          · simp only [Act.put, List.setIfInBounds_toArray, List.set_cons_zero, List.set_cons_succ, i64_w, i32_w]
                            rfl
                          refine pure_ (i := 16) (N := some 59) (v := ?_) (a' := ?_) #[true, true, true, true, true, true, true, true, true, true, true, true, true, true, true, true, true, false, false, false, false, false, false, false, false, false, false, false, false, false, false, false, false, false] rfl rfl (any_of HT_.out (by kernel_rfl)) (fun _ _ _ h => h) (Or.inl ⟨by rfl, ?_⟩) ?_ ?_
                          rotate_left
                          · intro w'
                            go_simp
                            with_reducible rfl
                          rotate_left
                          · simp only [Act.put, List.setIfInBounds_toArray, List.set_cons_zero, List.set_cons_succ, i64_w, i32_w]
                            rfl
                          refine pure_ (i := 17) (N := some 60) (v := ?_) (a' := ?_) #[true, true, true, true, true, true, true, true, true, true, true, true, true, true, true, true, true, true, false, false, false, false, false, false, false, false, false, false, false, false, false, false, false, false] rfl rfl (any_of HT_.out (by kernel_rfl)) (fun _ _ _ h => h) (Or.inl ⟨by rfl, ?_⟩) ?_ ?_
                          rotate_left
                          · intro w'
                            go_simp
                            with_reducible rfl
                          rotate_left
                          · simp only [Act.put, List.setIfInBounds_toArray, List.set_cons_zero, List.set_cons_succ, i64_w, i32_w]
                            rfl
                          refine pure_ (i := 18) (N := some 61) (v := ?_) (a' := ?_) #[true, true, true, true, true, true, true, true, true, true, true, true, true, true, true, true, true, true, true, false, false, false, false, false, false, false, false, false, false, false, false, false, false, false] rfl rfl (any_of HT_.out (by kernel_rfl)) (fun _ _ _ h => h) (Or.inl ⟨by rfl, ?_⟩) ?_ ?_
                          rotate_left
                          · intro w'
                            go_simp
                            with_reducible rfl
                          rotate_left
                          · simp only [Act.put, List.setIfInBounds_toArray, List.set_cons_zero, List.set_cons_succ, i64_w, i32_w]
                            rfl
                          refine pure_ (i := 21) (N := some 64) (v := ?_) (a' := ?_) #[true, true, true, true, true, true, true, true, true, true, true, true, true, true, true, true, true, true, true, false, false, true, false, false, false, false, false, false, false, false, false, false, false, false] rfl rfl (any_of HT_.out (by kernel_rfl)) (fun _ _ _ h => h) (Or.inl ⟨by rfl, ?_⟩) ?_ ?_
                          rotate_left
                          · intro w'
                            go_simp
                            with_reducible rfl
                          rotate_left
                          · simp only [Act.put, List.setIfInBounds_toArray, List.set_cons_zero, List.set_cons_succ, i64_w, i32_w]
                            rfl
                          refine pure_ (i := 22) (N := some 65) (v := ?_) (a' := ?_) #[true, true, true, true, true, true, true, true, true, true, true, true, true, true, true, true, true, true, true, false, false, true, true, false, false, false, false, false, false, false, false, false, false, false] rfl rfl (any_of HT_.out (by kernel_rfl)) (fun _ _ _ h => h) (Or.inl ⟨by rfl, ?_⟩) ?_ ?_
                          rotate_left
                          · intro w'
                            go_simp
                            with_reducible rfl
                          rotate_left
                          · simp only [Act.put, List.setIfInBounds_toArray, List.set_cons_zero, List.set_cons_succ, i64_w, i32_w]
                            rfl
                          refine pure_ (i := 23) (N := some 66) (v := ?_) (a' := ?_) #[true, true, true, true, true, true, true, true, true, true, true, true, true, true, true, true, true, true, true, false, false, true, true, true, false, false, false, false, false, false, false, false, false, false] rfl rfl (any_of HT_.out (by kernel_rfl)) (fun _ _ _ h => h) (Or.inl ⟨by rfl, ?_⟩) ?_ ?_
                          rotate_left
                          · intro w'
                            go_simp
                            with_reducible rfl
                          rotate_left
                          · simp only [Act.put, List.setIfInBounds_toArray, List.set_cons_zero, List.set_cons_succ, i64_w, i32_w]
                            rfl
                          refine pure_ (i := 26) (N := some 69) (v := ?_) (a' := ?_) #[true, true, true, true, true, true, true, true, true, true, true, true, true, true, true, true, true, true, true, false, false, true, true, true, false, false, true, false, false, false, false, false, false, false] rfl rfl (any_of HT_.out (by kernel_rfl)) (fun _ _ _ h => h) (Or.inl ⟨by rfl, ?_⟩) ?_ ?_
                          rotate_left
                          · intro w'
                            go_simp
                            with_reducible rfl
                          rotate_left
                          · simp only [Act.put, List.setIfInBounds_toArray, List.set_cons_zero, List.set_cons_succ, i64_w, i32_w]
                            rfl
                          refine pure_ (i := 27) (N := some 70) (v := ?_) (a' := ?_) #[true, true, true, true, true, true, true, true, true, true, true, true, true, true, true, true, true, true, true, false, false, true, true, true, false, false, true, true, false, false, false, false, false, false] rfl rfl (any_of HT_.out (by kernel_rfl)) (fun _ _ _ h => h) (Or.inl ⟨by rfl, ?_⟩) ?_ ?_
                          rotate_left
                          · intro w'
                            go_simp
                            with_reducible rfl
                          rotate_left
                          · simp only [Act.put, List.setIfInBounds_toArray, List.set_cons_zero, List.set_cons_succ, i64_w, i32_w]
                            rfl
                          refine pure_ (i := 28) (N := some 71) (v := ?_) (a' := ?_) #[true, true, true, true, true, true, true, true, true, true, true, true, true, true, true, true, true, true, true, false, false, true, true, true, false, false, true, true, true, false, false, false, false, false] rfl rfl (any_of HT_.out (by kernel_rfl)) (fun _ _ _ h => h) (Or.inl ⟨by rfl, ?_⟩) ?_ ?_
                          rotate_left
                          · intro w'
                            go_simp
                            with_reducible rfl
                          rotate_left
                          · simp only [Act.put, List.setIfInBounds_toArray, List.set_cons_zero, List.set_cons_succ, i64_w, i32_w]
                            rfl
                          refine pure_ (i := 29) (N := some 72) (v := ?_) (a' := ?_) #[true, true, true, true, true, true, true, true, true, true, true, true, true, true, true, true, true, true, true, false, false, true, true, true, false, false, true, true, true, true, false, false, false, false] rfl rfl (any_of HT_.out (by kernel_rfl)) (fun _ _ _ h => h) (Or.inl ⟨by rfl, ?_⟩) ?_ ?_
                          rotate_left
                          · intro w'
                            go_simp
                            with_reducible rfl
                          rotate_left
                          · simp only [Act.put, List.setIfInBounds_toArray, List.set_cons_zero, List.set_cons_succ, i64_w, i32_w]
                            rfl
                          refine take_ (i := 19) (N := some 62) (v := ?_) (a' := ?_) #[true, true, true, true, true, true, true, true, true, true, true, true, true, true, true, true, true, true, true, true, false, true, true, true, false, false, true, true, true, true, false, false, false, false] rfl rfl (take_ofW HT_.out HW_.out (by kernel_rfl)) (fun _ _ _ h => h) (Or.inl ⟨by rfl, ?_⟩) hHeld ?_ ?_
                          rotate_left
                          · rintro w' ⟨s0, s1, s2, s3, s4⟩
                            go_simp
                            with_reducible rfl
                          rotate_left
                          · simp only [Act.put, List.setIfInBounds_toArray, List.set_cons_zero, List.set_cons_succ, i64_w, i32_w]
                            rfl
                          refine pure_ (i := 20) (N := some 63) (v := ?_) (a' := ?_) #[true, true, true, true, true, true, true, true, true, true, true, true, true, true, true, true, true, true, true, true, true, true, true, true, false, false, true, true, true, true, false, false, false, false] rfl rfl (any_of HT_.out (by kernel_rfl)) (fun _ _ _ h => h) (Or.inl ⟨by rfl, ?_⟩) ?_ ?_
                          rotate_left
                          · intro w'
                            go_simp
                            with_reducible rfl
                          rotate_left
                          · simp only [Act.put, List.setIfInBounds_toArray, List.set_cons_zero, List.set_cons_succ, i64_w, i32_w]
                            rfl
                          refine take_ (i := 30) (N := some 73) (v := ?_) (a' := ?_) #[true, true, true, true, true, true, true, true, true, true, true, true, true, true, true, true, true, true, true, true, true, true, true, true, false, false, true, true, true, true, true, false, false, false] rfl rfl (take_ofW HT_.out HW_.out (by kernel_rfl)) (fun _ _ _ h => h) (Or.inl ⟨by rfl, ?_⟩) hHeld ?_ ?_
                          rotate_left
                          · rintro w' ⟨s0, s1, s2, s3, s4⟩
                            go_simp
                            with_reducible rfl
                          rotate_left
                          · simp only [Act.put, List.setIfInBounds_toArray, List.set_cons_zero, List.set_cons_succ, i64_w, i32_w]
                            rfl
                          refine pure_ (i := 31) (N := some 74) (v := ?_) (a' := ?_) #[true, true, true, true, true, true, true, true, true, true, true, true, true, true, true, true, true, true, true, true, true, true, true, true, false, false, true, true, true, true, true, true, false, false] rfl rfl (any_of HT_.out (by kernel_rfl)) (fun _ _ _ h => h) (Or.inl ⟨by rfl, ?_⟩) ?_ ?_
                          rotate_left
                          · intro w'
                            go_simp
                            with_reducible rfl
                          rotate_left
                          · simp only [Act.put, List.setIfInBounds_toArray, List.set_cons_zero, List.set_cons_succ, i64_w, i32_w]
                            rfl
                          refine one_ (i := 24) (N := some 67) #[true, true, true, true, true, true, true, true, true, true, true, true, true, true, true, true, true, true, true, true, true, true, true, true, true, false, true, true, true, true, true, true, false, false] rfl rfl (one_of HT_.out (by kernel_rfl)) (by decide) (fun K hK => ?_)
                          refine goes_ Try.func61 (by kernel_rfl) rfl #[.int .u64 t206, .agg #[.int .i64 (t203.length : Int), .slice Ao33 t207.length co33], .agg #[.int .i64 ji10, .int .u64 a2]] (by rfl) rfl rfl (by (try simp only [List.map_toArray, List.map_cons, List.map_nil]); first | done | (simp only [hji10]; rfl) | rfl | (simp only [List.length_drop, List.length_take]; rfl)) ?_
                          with_reducible refine (plexuslaw03_check.calls k t206 (t203.length : Int) _ _ t207 ji10 a2 t215 _ ?side1 ?side2 A16.out).mono ?_
                          (case side1 => repeat (first | exact (Kd.R_reads' HO209.out).2.2 | (with_reducible refine Kd.C_alloc ?_ _) | (with_reducible refine Kd.C_drewN ?_ _) | (with_reducible refine Kd.C_drew ?_)))
                          (case side2 => exact (Kd.R_reads' HO209.out).2.1)
                          rintro e w43 ⟨rfl, hb⟩
                          have HS4_ := (hb.cell (World.block_lt_of_cell? _ _ (hHeld.2.2.2.2))).trans (hHeld.2.2.2.2)
                          refine ⟨_, rfl, ?_⟩
                          have n0_ := Aside0.mk (Kd.R_below (by (with_reducible repeat (first | apply Kd.R_alloc | apply Kd.R_drewN | apply Kd.R_drew)); exact HO205.out) hb)
                          have n1_ := Aside0.mk (Kd.R_below (by (with_reducible repeat (first | apply Kd.R_alloc | apply Kd.R_drewN | apply Kd.R_drew)); exact HO209.out) hb)
                          have n2_ := Aside0.mk (blk_below (g := gb201) (o := .cells #[.int .u16 a1_0, .int .u16 a1_1, .int .u16 a1_2] 76 (0, 0)) (by (with_reducible repeat (first | refine blk_drewN ?_ _ | refine blk_drew ?_ | refine blk_alloc ?_ _)); exact BK201.out) hb)
                          have n3_ := Aside0.mk (blk_below (g := gb211) (o := .cells #[.slice Ao33 t207.length co33, .int .i64 t210] 80 (0, 0)) (by (with_reducible repeat (first | refine blk_drewN ?_ _ | refine blk_drew ?_ | refine blk_alloc ?_ _)); exact BK211.out) hb)
                          have n4_ := Aside0.mk (blk_below (g := gb213) (o := .cells #[.int .i64 ji10, .int .u64 (rd t203 (ji10))] 83 (0, 0)) (by (with_reducible repeat (first | refine blk_drewN ?_ _ | refine blk_drew ?_ | refine blk_alloc ?_ _)); exact BK213.out) hb)
                          have n5_ := Aside0.mk (below_step (by repeat (first | (with_reducible first | exact HB.out | apply below_alloc | apply pw_below_drewN | apply below_drew1 | refine below_set ?_ GE201.out | refine below_set ?_ GE211.out | refine below_set ?_ GE213.out) | exact HB.out)) hb)
                          clear HO205
                          clear HO209
                          clear BK201
                          clear BK211
                          clear BK213
                          clear HB
                          have HO205 := n0_
                          have HO209 := n1_
                          have BK201 := n2_
                          have BK211 := n3_
                          have BK213 := n4_
                          have HB := n5_
                          clear n0_ n1_ n2_ n3_ n4_ n5_
                          (try clear hb)
                          (try clear hb2)
                          (try clear hk)
                          (try clear hi)
                          refine hK.out _ _ ⟨(blk_cell BK211.out 0).trans rfl, (blk_cell BK211.out 1).trans rfl, (blk_cell BK213.out 0).trans rfl, (blk_cell BK213.out 1).trans rfl, HS4_⟩ (fun hHeld => ?_)
                          clear hK K
                          refine norm_ (a' := ?_) ?_ ?_
                          rotate_left
                          · show Act.put _ (some 67) _ = _
                            simp only [Act.put, List.setIfInBounds_toArray, List.set_cons_zero, List.set_cons_succ, i64_w, i32_w]
                            rfl
                          refine pure_ (i := 25) (N := some 68) (v := ?_) (a' := ?_) #[true, true, true, true, true, true, true, true, true, true, true, true, true, true, true, true, true, true, true, true, true, true, true, true, true, true, true, true, true, true, true, true, false, false] rfl rfl (any_of HT_.out (by kernel_rfl)) (fun _ _ _ h => h) (Or.inl ⟨by rfl, ?_⟩) ?_ ?_
                          rotate_left
                          · intro w'
                            go_simp
                            with_reducible rfl
                          rotate_left
                          · simp only [Act.put, List.setIfInBounds_toArray, List.set_cons_zero, List.set_cons_succ, i64_w, i32_w]
                            rfl
                          refine pure_ (i := 32) (N := some 75) (v := ?_) (a' := ?_) #[true, true, true, true, true, true, true, true, true, true, true, true, true, true, true, true, true, true, true, true, true, true, true, true, true, true, true, true, true, true, true, true, true, false] rfl rfl (any_of HT_.out (by kernel_rfl)) (fun _ _ _ h => h) (Or.inl ⟨by rfl, ?_⟩) ?_ ?_
                          rotate_left
                          · intro w'
                            go_simp
                            with_reducible rfl
                          rotate_left
                          · simp only [Act.put, List.setIfInBounds_toArray, List.set_cons_zero, List.set_cons_succ, i64_w, i32_w]
                            rfl
                          refine pure_ (i := 33) (N := some 76) (v := ?_) (a' := ?_) #[true, true, true, true, true, true, true, true, true, true, true, true, true, true, true, true, true, true, true, true, true, true, true, true, true, true, true, true, true, true, true, true, true, true] rfl rfl (any_of HT_.out (by kernel_rfl)) (fun _ _ _ h => h) (Or.inl ⟨by rfl, ?_⟩) ?_ ?_
                          rotate_left
                          · intro w'
                            go_simp
                            with_reducible rfl
                          rotate_left
                          · simp only [Act.put, List.setIfInBounds_toArray, List.set_cons_zero, List.set_cons_succ, i64_w, i32_w]
                            rfl
                          refine done_ (done_of HT_.out (by kernel_rfl)) ?_
                          try go_wp2_with (first | ((with_reducible refine gate_dst (N := 77) rfl ?_); (try (refine gate_guard (by rfl) ?_; dsimp only)); refine Kd.R_lit (Kd.int .u64) _ 72 ?hg (N := 77) ?hd (xs := ([] : List Int)) (inner := []) (ok := fun _ => True) (okp := fun _ => True) ?hr ?hp (fun _ hk => hk) trivial (Below.refl _ _) (Nat.le_refl _) (by simp) ?_; (case hd => rfl); (case hg => rfl); (case hr => first | (go_simp; done) | (go_simp; rfl)); (case hp => exact (Reps.none _ _)); intro v218 w44 ho45 hb hg_ hnew_; clear hg_ hnew_; (first | rw [← Ny217.out] at ho45 | (simp only [Int.reduceToNat] at ho45; rw [← Ny217.out] at ho45)); have n0_ := Aside0.mk (Kd.R_elder' (by (with_reducible repeat (first | apply Kd.R_alloc | apply Kd.R_drewN | apply Kd.R_drew)); exact HO205.out) (Kd.R_base ho45) hb); have n1_ := Aside0.mk (Kd.R_elder' (by (with_reducible repeat (first | apply Kd.R_alloc | apply Kd.R_drewN | apply Kd.R_drew)); exact HO209.out) (Kd.R_base ho45) hb); have n2_ := Aside0.mk (Kd.R_lower (Kd.R_new' (Kd.R_new' ho45 (Kd.R_lt (by (with_reducible repeat (first | apply Kd.R_alloc | apply Kd.R_drewN | apply Kd.R_drew)); exact HO205.out))) (Kd.R_lt (by (with_reducible repeat (first | apply Kd.R_alloc | apply Kd.R_drewN | apply Kd.R_drew)); exact HO209.out))) (below_size (by repeat (first | (with_reducible first | exact HB.out | apply below_alloc | apply pw_below_drewN | apply below_drew1 | refine below_set ?_ GE201.out | refine below_set ?_ GE211.out | refine below_set ?_ GE213.out) | exact HB.out)))); have n3_ := Aside0.mk (blk_below (g := gb201) (o := .cells #[.int .u16 a1_0, .int .u16 a1_1, .int .u16 a1_2] 76 (0, 0)) (by (with_reducible repeat (first | refine blk_drewN ?_ _ | refine blk_drew ?_ | refine blk_alloc ?_ _)); exact BK201.out) hb); have n4_ := Aside0.mk (blk_below (g := gb211) (o := .cells #[.slice Ao33 t207.length co33, .int .i64 t210] 80 (0, 0)) (by (with_reducible repeat (first | refine blk_drewN ?_ _ | refine blk_drew ?_ | refine blk_alloc ?_ _)); exact BK211.out) hb); have n5_ := Aside0.mk (blk_below (g := gb213) (o := .cells #[.int .i64 ji10, .int .u64 (rd t203 (ji10))] 83 (0, 0)) (by (with_reducible repeat (first | refine blk_drewN ?_ _ | refine blk_drew ?_ | refine blk_alloc ?_ _)); exact BK213.out) hb); have n6_ := Aside0.mk (below_step (by repeat (first | (with_reducible first | exact HB.out | apply below_alloc | apply pw_below_drewN | apply below_drew1 | refine below_set ?_ GE201.out | refine below_set ?_ GE211.out | refine below_set ?_ GE213.out) | exact HB.out)) hb); clear HO205; clear HO209; clear BK201; clear BK211; clear BK213; clear HB; have HO205 := n0_; have HO209 := n1_; have HO219 := n2_; have BK201 := n3_; have BK211 := n4_; have BK213 := n5_; have HB := n6_; clear n0_ n1_ n2_ n3_ n4_ n5_ n6_; clear hb ho45; have hcz46_0 : w44.cell? ⟨gb211, 0, none⟩ = some (.slice Ao33 t207.length co33) := (blk_cell BK211.out 0).trans rfl; have hcz46_1 : w44.cell? ⟨gb211, 1, none⟩ = some (.int .i64 t210) := (blk_cell BK211.out 1).trans rfl; have hfz46_0 := blk_frozen BK211.out 0; have hfz46_1 := blk_frozen BK211.out 1) | ((with_reducible refine gate_builtin (b := .append) (xs := #[.tmp 77, .tmp 79]) rfl ?_); (try (refine gate_guard (by rfl) ?_; dsimp only)); at_builtin; refine Kd.R_append_rows (Kd.int .u64) (w0 := w) w.heap.size rfl (.tmp 77) (.tmp 79) 75 72 (.int .u64 0) 8 rfl Try.underlying75 info72 rfl (by decide) (by omega) v218 y217 t207 _ _ _ (fun k_ => some k_ ≠ (.slice (some ad212) t203.length co29 : Value).ownBlock ∧ some k_ ≠ (.slice Ao33 t207.length co33 : Value).ownBlock) (fun _ => False) rfl rfl ?aO ?aR (fun _ _ h => h) (fun _ h => h.elim) ?aF ?aB ?aS ?aL ?_; (case aR => repeat (first | exact (Kd.R_reads' HO209.out).2.2 | (with_reducible refine Kd.C_alloc ?_ _) | (with_reducible refine Kd.C_drewN ?_ _) | (with_reducible refine Kd.C_drew ?_))); (case aB => exact (by repeat (first | (with_reducible first | exact HB.out | apply below_alloc | apply pw_below_drewN | apply below_drew1 | refine below_set ?_ GE201.out | refine below_set ?_ GE211.out | refine below_set ?_ GE213.out) | exact HB.out))); (case aF => exact (fun k_ hk => ⟨Kd.fresh' (Kd.R_lt (by (with_reducible repeat (first | apply Kd.R_alloc | apply Kd.R_drewN | apply Kd.R_drew)); exact HO205.out)) k_ hk, Kd.fresh' (Kd.R_lt (by (with_reducible repeat (first | apply Kd.R_alloc | apply Kd.R_drewN | apply Kd.R_drew)); exact HO209.out)) k_ hk⟩)); (case aO => exact (by (with_reducible repeat (first | apply Kd.R_alloc | apply Kd.R_drewN | apply Kd.R_drew)); exact Kd.R_mono HO219.out (fun _ hk => ⟨hk.1.2, hk.2⟩))); (case aS => exact (below_size (by repeat (first | (with_reducible first | exact HB.out | apply below_alloc | apply pw_below_drewN | apply below_drew1 | refine below_set ?_ GE201.out | refine below_set ?_ GE211.out | refine below_set ?_ GE213.out) | exact HB.out)))); (case aL => have := LMc18.out; omega); intro v221 w47 ho hb hg hat; rw [← Ny220.out] at ho; have n0_ := Aside0.mk (blk_grown (g := gb201) (o := .cells #[.int .u16 a1_0, .int .u16 a1_1, .int .u16 a1_2] 76 (0, 0)) (by (with_reducible repeat (first | refine blk_drewN ?_ _ | refine blk_drew ?_ | refine blk_alloc ?_ _)); exact BK201.out) hg (Kd.R_ne HO219.out BK201.out (by decide))); have n1_ := Aside0.mk (Kd.R_after (ok := (fun k_ => some k_ ≠ (.slice Ao33 t207.length co33 : Value).ownBlock)) (by (with_reducible repeat (first | apply Kd.R_alloc | apply Kd.R_drewN | apply Kd.R_drew)); exact HO205.out) hg hat); have n2_ := Aside0.mk (Kd.R_after (ok := (fun k_ => some k_ ≠ (.slice (some ad212) t203.length co29 : Value).ownBlock)) (by (with_reducible repeat (first | apply Kd.R_alloc | apply Kd.R_drewN | apply Kd.R_drew)); exact HO209.out) hg hat); have n3_ := Aside0.mk (blk_grown (g := gb211) (o := .cells #[.slice Ao33 t207.length co33, .int .i64 t210] 80 (0, 0)) (by (with_reducible repeat (first | refine blk_drewN ?_ _ | refine blk_drew ?_ | refine blk_alloc ?_ _)); exact BK211.out) hg (Kd.R_ne HO219.out BK211.out (by decide))); have n4_ := Aside0.mk (blk_grown (g := gb213) (o := .cells #[.int .i64 ji10, .int .u64 (rd t203 (ji10))] 83 (0, 0)) (by (with_reducible repeat (first | refine blk_drewN ?_ _ | refine blk_drew ?_ | refine blk_alloc ?_ _)); exact BK213.out) hg (Kd.R_ne HO219.out BK213.out (by decide))); have n5_ := Aside0.mk (hb); have n6_ := Aside0.mk (ho); clear BK201; clear HO205; clear HO209; clear BK211; clear BK213; clear HB; clear HO219; have BK201 := n0_; have HO205 := n1_; have HO209 := n2_; have BK211 := n3_; have BK213 := n4_; have HB := n5_; have HO222 := n6_; clear n0_ n1_ n2_ n3_ n4_ n5_ n6_; clear ho hb hg hat) | ((with_reducible refine gate_builtin (b := .append) (xs := #[.tmp 80, .tmp 82]) rfl ?_); (try (refine gate_guard (by rfl) ?_; dsimp only)); at_builtin; refine Kd.R_append (Kd.int .u64) (w0 := w) w.heap.size rfl (.tmp 80) (.tmp 82) 75 72 (.int .u64 0) 8 rfl Try.underlying75 info72 rfl (by decide) (by omega) v221 y220 a2 [.int .u64 a2] (fun k_ => some k_ ≠ (.slice (some ad212) t203.length co29 : Value).ownBlock ∧ some k_ ≠ (.slice Ao33 t207.length co33 : Value).ownBlock) (fun _ => False) rfl rfl ?aP (fun _ hk => hk.elim) ?aF ?aO ?aB ?aS ?aL ?_; (case aP => exact rfl); (case aB => exact (by repeat (first | (with_reducible first | exact HB.out | apply below_alloc | apply pw_below_drewN | apply below_drew1 | refine below_set ?_ GE201.out | refine below_set ?_ GE211.out | refine below_set ?_ GE213.out) | exact HB.out))); (case aF => exact (fun k_ hk => ⟨Kd.fresh' (Kd.R_lt (by (with_reducible repeat (first | apply Kd.R_alloc | apply Kd.R_drewN | apply Kd.R_drew)); exact HO205.out)) k_ hk, Kd.fresh' (Kd.R_lt (by (with_reducible repeat (first | apply Kd.R_alloc | apply Kd.R_drewN | apply Kd.R_drew)); exact HO209.out)) k_ hk⟩)); (case aO => exact (by (with_reducible repeat (first | apply Kd.R_alloc | apply Kd.R_drewN | apply Kd.R_drew)); exact HO222.out)); (case aS => exact (below_size (by repeat (first | (with_reducible first | exact HB.out | apply below_alloc | apply pw_below_drewN | apply below_drew1 | refine below_set ?_ GE201.out | refine below_set ?_ GE211.out | refine below_set ?_ GE213.out) | exact HB.out)))); (case aL => have := LMc19.out; omega); intro v224 w48 ho hb hg hat; rw [← Ny223.out] at ho; have n0_ := Aside0.mk (blk_grown (g := gb201) (o := .cells #[.int .u16 a1_0, .int .u16 a1_1, .int .u16 a1_2] 76 (0, 0)) (by (with_reducible repeat (first | refine blk_drewN ?_ _ | refine blk_drew ?_ | refine blk_alloc ?_ _)); exact BK201.out) hg (Kd.R_ne HO222.out BK201.out (by decide))); have n1_ := Aside0.mk (Kd.R_after (ok := (fun k_ => some k_ ≠ (.slice Ao33 t207.length co33 : Value).ownBlock)) (by (with_reducible repeat (first | apply Kd.R_alloc | apply Kd.R_drewN | apply Kd.R_drew)); exact HO205.out) hg hat); have n2_ := Aside0.mk (Kd.R_after (ok := (fun k_ => some k_ ≠ (.slice (some ad212) t203.length co29 : Value).ownBlock)) (by (with_reducible repeat (first | apply Kd.R_alloc | apply Kd.R_drewN | apply Kd.R_drew)); exact HO209.out) hg hat); have n3_ := Aside0.mk (blk_grown (g := gb211) (o := .cells #[.slice Ao33 t207.length co33, .int .i64 t210] 80 (0, 0)) (by (with_reducible repeat (first | refine blk_drewN ?_ _ | refine blk_drew ?_ | refine blk_alloc ?_ _)); exact BK211.out) hg (Kd.R_ne HO222.out BK211.out (by decide))); have n4_ := Aside0.mk (blk_grown (g := gb213) (o := .cells #[.int .i64 ji10, .int .u64 (rd t203 (ji10))] 83 (0, 0)) (by (with_reducible repeat (first | refine blk_drewN ?_ _ | refine blk_drew ?_ | refine blk_alloc ?_ _)); exact BK213.out) hg (Kd.R_ne HO222.out BK213.out (by decide))); have n5_ := Aside0.mk (hb); have n6_ := Aside0.mk (ho); clear BK201; clear HO205; clear HO209; clear BK211; clear BK213; clear HB; clear HO222; have BK201 := n0_; have HO205 := n1_; have HO209 := n2_; have BK211 := n3_; have BK213 := n4_; have HB := n5_; have HO225 := n6_; clear n0_ n1_ n2_ n3_ n4_ n5_ n6_; clear ho hb hg hat; obtain ⟨Ao49, co49, eo49⟩ := Kd.R_slice HO225.out; subst eo49; have hcz50_0 : w48.cell? ⟨gb213, 0, none⟩ = some (.int .i64 ji10) := (blk_cell BK213.out 0).trans rfl; have hcz50_1 : w48.cell? ⟨gb213, 1, none⟩ = some (.int .u64 (rd t203 (ji10))) := (blk_cell BK213.out 1).trans rfl; have hfz50_0 := blk_frozen BK213.out 0; have hfz50_1 := blk_frozen BK213.out 1) | ((with_reducible refine gate_callee (f := 61) rfl ?_); refine goesL_ (some 90) rfl rfl Try.func61 (by kernel_rfl) rfl #[.int .u64 t206, .agg #[.int .i64 (t203.length : Int), .slice Ao49 y223.length co49], .agg #[.int .i64 ji10, .int .u64 (rd t203 (ji10))]] rfl (by (try simp only [List.map_toArray, List.map_cons, List.map_nil]); first | done | (simp only [hji10]; rfl) | rfl | (simp only [List.length_drop, List.length_take]; rfl)) ?_; (with_reducible refine (plexuslaw03_check.calls k t206 (t203.length : Int) _ _ y223 ji10 (rd t203 (ji10)) t226 _ ?side1 ?side2 A20.out).mono ?_); (case side1 => repeat (first | exact (Kd.R_reads' HO225.out).2.2 | (with_reducible refine Kd.C_alloc ?_ _) | (with_reducible refine Kd.C_drewN ?_ _) | (with_reducible refine Kd.C_drew ?_))); (case side2 => exact (Kd.R_reads' HO225.out).2.1); rintro e w51 ⟨rfl, hb⟩; refine ⟨_, rfl, ?_⟩; have n0_ := Aside0.mk (Kd.R_below (by (with_reducible repeat (first | apply Kd.R_alloc | apply Kd.R_drewN | apply Kd.R_drew)); exact HO205.out) hb); have n1_ := Aside0.mk (Kd.R_below (by (with_reducible repeat (first | apply Kd.R_alloc | apply Kd.R_drewN | apply Kd.R_drew)); exact HO209.out) hb); have n2_ := Aside0.mk (Kd.R_below (by (with_reducible repeat (first | apply Kd.R_alloc | apply Kd.R_drewN | apply Kd.R_drew)); exact HO225.out) hb); have n3_ := Aside0.mk (blk_below (g := gb201) (o := .cells #[.int .u16 a1_0, .int .u16 a1_1, .int .u16 a1_2] 76 (0, 0)) (by (with_reducible repeat (first | refine blk_drewN ?_ _ | refine blk_drew ?_ | refine blk_alloc ?_ _)); exact BK201.out) hb); have n4_ := Aside0.mk (blk_below (g := gb211) (o := .cells #[.slice Ao33 t207.length co33, .int .i64 t210] 80 (0, 0)) (by (with_reducible repeat (first | refine blk_drewN ?_ _ | refine blk_drew ?_ | refine blk_alloc ?_ _)); exact BK211.out) hb); have n5_ := Aside0.mk (blk_below (g := gb213) (o := .cells #[.int .i64 ji10, .int .u64 (rd t203 (ji10))] 83 (0, 0)) (by (with_reducible repeat (first | refine blk_drewN ?_ _ | refine blk_drew ?_ | refine blk_alloc ?_ _)); exact BK213.out) hb); have n6_ := Aside0.mk (below_step (by repeat (first | (with_reducible first | exact HB.out | apply below_alloc | apply pw_below_drewN | apply below_drew1 | refine below_set ?_ GE201.out | refine below_set ?_ GE211.out | refine below_set ?_ GE213.out) | exact HB.out)) hb); clear HO205; clear HO209; clear HO225; clear BK201; clear BK211; clear BK213; clear HB; have HO205 := n0_; have HO209 := n1_; have HO225 := n2_; have BK201 := n3_; have BK211 := n4_; have BK213 := n5_; have HB := n6_; clear n0_ n1_ n2_ n3_ n4_ n5_ n6_; (try clear hb); (try clear hb2); (try clear hk); (try clear hi); have hcz52_0 : w51.cell? ⟨gb211, 0, none⟩ = some (.slice Ao33 t207.length co33) := (blk_cell BK211.out 0).trans rfl; have hcz52_1 : w51.cell? ⟨gb211, 1, none⟩ = some (.int .i64 t210) := (blk_cell BK211.out 1).trans rfl; have hfz52_0 := blk_frozen BK211.out 0; have hfz52_1 := blk_frozen BK211.out 1))
                          go_ret
                          exact ⟨by first | rfl | (simp [errW_none, errW_some] <;> rfl) | (simp only [← hji10]; first | rfl | (simp [errW_none, errW_some] <;> rfl)) | (simp [*, errW_none, errW_some] <;> rfl), by repeat (first | (with_reducible first | exact HB.out | apply below_alloc | apply pw_below_drewN | apply below_drew1 | refine below_set ?_ GE201.out | refine below_set ?_ GE211.out | refine below_set ?_ GE213.out) | exact HB.out)⟩
                        · rw [if_neg c23] at H
                          exact absurd H (by simp)
                      · rw [if_neg c22] at H
                        have c22b0 : ((t207.length : Int) == 0) = false := beq_eq_false_iff_ne.mpr c22
                        have c22b1 : ((t207.length : Int) != 0) = true := bne_iff_ne.mpr c22
                        have c22b2 : ¬ (t207 = []) := fun h_ => c22 (by rw [h_]; rfl)
                        obtain ⟨y227, hy227⟩ : ∃ y_ : List Int, y_ = (([] : List Int)) := ⟨_, rfl⟩
                        replace H : (if y227.length + t207.length < 17592186044416 then ((some (y227 ++ t207 : List Int)).bind fun y230 => (if 0 ≤ (Int.tmod (wrap64 (a1_2)) (t207.length : Int)) then (if (Int.tmod (wrap64 (a1_2)) (t207.length : Int)) < (y230.length : Int) then ((plexuslaw03_check.f k t206 (t203.length : Int) (y230.set ((Int.tmod (wrap64 (a1_2)) (t207.length : Int)) : Int).toNat a2) (ji10) (rd t203 (ji10))).bind fun t234 => (if (Int.tmod (wrap64 (a1_2)) (t207.length : Int)) < (t207.length : Int) then (if ((t234 == 0) == (a2 == (rd t207 (Int.tmod (wrap64 (a1_2)) (t207.length : Int))))) = true then (if 0 ≤ (wrap64 ((t207.length : Int) - 1)) then (if (wrap64 ((t207.length : Int) - 1)) ≤ (t207.length : Int) then ((plexuslaw03_check.f k t206 (t203.length : Int) (t207.take ((wrap64 ((t207.length : Int) - 1)) : Int).toNat) (ji10) (rd t203 (ji10))).bind fun t240 => (if t240 = 6 then (some true) else (none))) else (none)) else (none)) else (none)) else (none))) else (none)) else (none))) else (none)) = some r := by first | (rw [hy227]; with_reducible exact H) | (have H2_ := (Option.bind_some _ _).symm.trans H; rw [hy227]; with_reducible exact H2_) | (have H2_ := (Option.bind_some _ _).symm.trans H; with_reducible exact H2_) | with_reducible exact H | (rw [hy227]; exact H) | exact H
                        have Ny227 := Aside0.mk hy227
                        clear hy227
                        by_cases c53 : y227.length + t207.length < 17592186044416
                        · rw [if_pos c53] at H
                          have LMc53 := Aside0.mk c53
                          clear c53
                          obtain ⟨y230, hy230⟩ : ∃ y_ : List Int, y_ = (y227 ++ t207) := ⟨_, rfl⟩
                          replace H : (if 0 ≤ (Int.tmod (wrap64 (a1_2)) (t207.length : Int)) then (if (Int.tmod (wrap64 (a1_2)) (t207.length : Int)) < (y230.length : Int) then ((plexuslaw03_check.f k t206 (t203.length : Int) (y230.set ((Int.tmod (wrap64 (a1_2)) (t207.length : Int)) : Int).toNat a2) (ji10) (rd t203 (ji10))).bind fun t234 => (if (Int.tmod (wrap64 (a1_2)) (t207.length : Int)) < (t207.length : Int) then (if ((t234 == 0) == (a2 == (rd t207 (Int.tmod (wrap64 (a1_2)) (t207.length : Int))))) = true then (if 0 ≤ (wrap64 ((t207.length : Int) - 1)) then (if (wrap64 ((t207.length : Int) - 1)) ≤ (t207.length : Int) then ((plexuslaw03_check.f k t206 (t203.length : Int) (t207.take ((wrap64 ((t207.length : Int) - 1)) : Int).toNat) (ji10) (rd t203 (ji10))).bind fun t240 => (if t240 = 6 then (some true) else (none))) else (none)) else (none)) else (none)) else (none))) else (none)) else (none)) = some r := by first | (rw [hy230]; with_reducible exact H) | (have H2_ := (Option.bind_some _ _).symm.trans H; rw [hy230]; with_reducible exact H2_) | (have H2_ := (Option.bind_some _ _).symm.trans H; with_reducible exact H2_) | with_reducible exact H | (rw [hy230]; exact H) | exact H
                          have Ny230 := Aside0.mk hy230
                          clear hy230
                          obtain ⟨ji54, hji54⟩ : ∃ j_ : Int, (Int.tmod (wrap64 (a1_2)) (t207.length : Int)) = j_ := ⟨_, rfl⟩
                          replace H : (if 0 ≤ (ji54) then (if (ji54) < (y230.length : Int) then ((plexuslaw03_check.f k t206 (t203.length : Int) (y230.set ((ji54) : Int).toNat a2) (ji10) (rd t203 (ji10))).bind fun t234 => (if (ji54) < (t207.length : Int) then (if ((t234 == 0) == (a2 == (rd t207 (ji54)))) = true then (if 0 ≤ (wrap64 ((t207.length : Int) - 1)) then (if (wrap64 ((t207.length : Int) - 1)) ≤ (t207.length : Int) then ((plexuslaw03_check.f k t206 (t203.length : Int) (t207.take ((wrap64 ((t207.length : Int) - 1)) : Int).toNat) (ji10) (rd t203 (ji10))).bind fun t240 => (if t240 = 6 then (some true) else (none))) else (none)) else (none)) else (none)) else (none))) else (none)) else (none)) = some r := by first | (rw [hji54] at H; exact H) | (simp only [hji54] at H ⊢; exact H)
                          (try rw [hji54] at A4)
                          (try rw [hji54] at A6)
                          (try rw [hji54] at A8)
                          (try rw [hji54] at A9)
                          (try rw [hji54] at A14)
                          (try rw [hji54] at A16)
                          (try rw [hji54] at A20)
                          by_cases c55 : 0 ≤ (ji54)
                          · rw [if_pos c55] at H
                            have c55b0 : decide (0 ≤ (ji54)) = true := decide_eq_true c55
                            clear c55
                            by_cases c56 : (ji54) < (y230.length : Int)
                            · rw [if_pos c56] at H
                              have c56b0 : decide ((ji54) < (y230.length : Int)) = true := decide_eq_true c56
                              clear c56
                              obtain ⟨y233, hy233⟩ : ∃ y_ : List Int, y_ = (y230.set ((ji54) : Int).toNat a2) := ⟨_, rfl⟩
                              replace H : ((plexuslaw03_check.f k t206 (t203.length : Int) y233 (ji10) (rd t203 (ji10))).bind fun t234 => (if (ji54) < (t207.length : Int) then (if ((t234 == 0) == (a2 == (rd t207 (ji54)))) = true then (if 0 ≤ (wrap64 ((t207.length : Int) - 1)) then (if (wrap64 ((t207.length : Int) - 1)) ≤ (t207.length : Int) then ((plexuslaw03_check.f k t206 (t203.length : Int) (t207.take ((wrap64 ((t207.length : Int) - 1)) : Int).toNat) (ji10) (rd t203 (ji10))).bind fun t240 => (if t240 = 6 then (some true) else (none))) else (none)) else (none)) else (none)) else (none))) = some r := by first | (rw [hy233]; with_reducible exact H) | (have H2_ := (Option.bind_some _ _).symm.trans H; rw [hy233]; with_reducible exact H2_) | (have H2_ := (Option.bind_some _ _).symm.trans H; with_reducible exact H2_) | with_reducible exact H | (rw [hy233]; exact H) | exact H
                              have Ny233 := Aside0.mk hy233
                              clear hy233
                              replace H := Option.bind_eq_some_iff.mp H
                              obtain ⟨t234, A580, H⟩ := H
                              replace H : (if (ji54) < (t207.length : Int) then (if ((t234 == 0) == (a2 == (rd t207 (ji54)))) = true then (if 0 ≤ (wrap64 ((t207.length : Int) - 1)) then (if (wrap64 ((t207.length : Int) - 1)) ≤ (t207.length : Int) then ((plexuslaw03_check.f k t206 (t203.length : Int) (t207.take ((wrap64 ((t207.length : Int) - 1)) : Int).toNat) (ji10) (rd t203 (ji10))).bind fun t240 => (if t240 = 6 then (some true) else (none))) else (none)) else (none)) else (none)) else (none)) = some r := H
                              have A58 := Aside0.mk A580
                              clear A580
                              by_cases c59 : (ji54) < (t207.length : Int)
                              · rw [if_pos c59] at H
                                have c59b0 : decide ((ji54) < (t207.length : Int)) = true := decide_eq_true c59
                                clear c59
                                by_cases c60 : ((t234 == 0) == (a2 == (rd t207 (ji54)))) = true
                                · rw [if_pos c60] at H
                                  have c60b0 : ((t234 == 0) == (a2 == (rd t207 (ji54)))) = true := c60
                                  (try (have c60b1 : decide ((t234 == 0) = (a2 == (rd t207 (ji54)))) = true := by simpa using c60))
                                  (try (have c60b2 : ((t234 == 0) == (a2 == (rd t207 (ji54)))) = true := by simpa using c60))
                                  clear c60
                                  obtain ⟨ji61, hji61⟩ : ∃ j_ : Int, (wrap64 ((t207.length : Int) - 1)) = j_ := ⟨_, rfl⟩
                                  replace H : (if 0 ≤ (ji61) then (if (ji61) ≤ (t207.length : Int) then ((plexuslaw03_check.f k t206 (t203.length : Int) (t207.take ((ji61) : Int).toNat) (ji10) (rd t203 (ji10))).bind fun t240 => (if t240 = 6 then (some true) else (none))) else (none)) else (none)) = some r := by first | (rw [hji61] at H; exact H) | (simp only [hji61] at H ⊢; exact H)
                                  (try rw [hji61] at A4)
                                  (try rw [hji61] at A6)
                                  (try rw [hji61] at A8)
                                  (try rw [hji61] at A9)
                                  (try rw [hji61] at A14)
                                  (try rw [hji61] at A16)
                                  (try rw [hji61] at A20)
                                  (try rw [hji61] at A58)
                                  have hji61w : (IntKind.i64.wrap ((t207.length : Int) - 1)) = ji61 := (i64_w _).trans hji61
                                  by_cases c62 : 0 ≤ (ji61)
                                  · rw [if_pos c62] at H
                                    have c62b0 := eq_true c62
                                    have c62b1 : decide (0 ≤ (ji61)) = true := decide_eq_true c62
                                    clear c62
                                    by_cases c63 : (ji61) ≤ (t207.length : Int)
                                    · rw [if_pos c63] at H
                                      have c63b0 := eq_true c63
                                      have c63b1 : decide ((ji61) ≤ (t207.length : Int)) = true := decide_eq_true c63
                                      clear c63
                                      obtain ⟨y236, hy236⟩ : ∃ y_ : List Int, y_ = (t207.take ((ji61) : Int).toNat) := ⟨_, rfl⟩
                                      replace H : ((plexuslaw03_check.f k t206 (t203.length : Int) y236 (ji10) (rd t203 (ji10))).bind fun t240 => (if t240 = 6 then (some true) else (none))) = some r := by first | (rw [hy236]; with_reducible exact H) | (have H2_ := (Option.bind_some _ _).symm.trans H; rw [hy236]; with_reducible exact H2_) | (have H2_ := (Option.bind_some _ _).symm.trans H; with_reducible exact H2_) | with_reducible exact H | (rw [hy236]; exact H) | exact H
                                      have Ny236 := Aside0.mk hy236
                                      clear hy236
                                      replace H := Option.bind_eq_some_iff.mp H
                                      obtain ⟨t240, A640, H⟩ := H
                                      replace H : (if t240 = 6 then (some true) else (none)) = some r := H
                                      have A64 := Aside0.mk A640
                                      clear A640
                                      by_cases c65 : t240 = 6
                                      · rw [if_pos c65] at H
                                        have c65b0 : (t240 == 6) = true := beq_iff_eq.mpr c65
                                        have c65b1 : (t240 != 6) = false := bne_eq_false_iff_eq.mpr c65
                                        clear c65
                                        obtain rfl := Option.some.inj H
                                        go_enter Try.func17, Try.ntmps17
                                        try go_wp2_with (first | ((with_reducible refine gate_dst (N := 4) rfl ?_); (try (refine gate_guard (by rfl) ?_; dsimp only)); refine box_event ?hg (N := 4) ?hd (cs := #[.int .u16 a1_0, .int .u16 a1_1, .int .u16 a1_2]) (t := 76) ?hr ?_; (case hd => rfl); (case hg => rfl); (case hr => first | (go_simp; done) | (go_simp; rfl)); intro gb201 hg w66 hbox hb; have n0_ := Aside0.mk (below_step (by repeat (first | (with_reducible first | exact HB.out | apply below_alloc | apply pw_below_drewN | apply below_drew1) | exact HB.out)) hb); have n1_ := Aside0.mk (hbox); have n2_ := Aside0.mk ((by rw [hg]; exact (below_size (by repeat (first | (with_reducible first | exact HB.out | apply below_alloc | apply pw_below_drewN | apply below_drew1) | exact HB.out))) : w.heap.size ≤ gb201)); have n3_ := Aside0.mk ((by rw [hg]; exact (below_size (by repeat (first | (with_reducible first | exact HB.out | apply below_alloc | apply pw_below_drewN | apply below_drew1) | exact HB.out))) : w.heap.size ≤ gb201)); clear HB; have HB := n0_; have BK201 := n1_; have GW201 := n2_; have GE201 := n3_; clear n0_ n1_ n2_ n3_; clear hb hbox hg) | ((with_reducible refine gate_callee (f := 55) rfl ?_); refine goesL_ (some 16) rfl rfl Try.func55 (by kernel_rfl) rfl #[] rfl (by (try simp only [List.map_toArray, List.map_cons, List.map_nil]); first | done | rfl | (simp only [List.length_drop, List.length_take]; rfl)) ?_; (with_reducible refine (plexuslaw03_examples.calls k  true _ A4.out).mono ?_); rintro e w67 ⟨rfl, hb⟩; refine ⟨_, rfl, ?_⟩; have n0_ := Aside0.mk (blk_below (g := gb201) (o := .cells #[.int .u16 a1_0, .int .u16 a1_1, .int .u16 a1_2] 76 (0, 0)) (by (with_reducible repeat (first | refine blk_drewN ?_ _ | refine blk_drew ?_ | refine blk_alloc ?_ _)); exact BK201.out) hb); have n1_ := Aside0.mk (below_step (by repeat (first | (with_reducible first | exact HB.out | apply below_alloc | apply pw_below_drewN | apply below_drew1 | refine below_set ?_ GE201.out) | exact HB.out)) hb); clear BK201; clear HB; have BK201 := n0_; have HB := n1_; clear n0_ n1_; (try clear hb); (try clear hb2); (try clear hk); (try clear hi); have hcz68_0 : w67.cell? ⟨gb201, 0, none⟩ = some (.int .u16 a1_0) := (blk_cell BK201.out 0).trans rfl; have hcz68_1 : w67.cell? ⟨gb201, 1, none⟩ = some (.int .u16 a1_1) := (blk_cell BK201.out 1).trans rfl; have hcz68_2 : w67.cell? ⟨gb201, 2, none⟩ = some (.int .u16 a1_2) := (blk_cell BK201.out 2).trans rfl; have hfz68_0 := blk_frozen BK201.out 0; have hfz68_1 := blk_frozen BK201.out 1; have hfz68_2 := blk_frozen BK201.out 2) | ((with_reducible refine gate_callee (f := 58) rfl ?_); refine goesL_ (some 25) rfl rfl Try.func58 (by kernel_rfl) rfl #[.slice A0 l0.length c0, .int .i64 (wrap64 (1 + (wrap64 (Int.tmod a1_0 300))))] rfl (by (try simp only [List.map_toArray, List.map_cons, List.map_nil]); first | done | rfl | (simp only [List.length_drop, List.length_take]; rfl)) ?_; (with_reducible refine (plexusref03_Grown.calls k _ _ l0 (wrap64 (1 + (wrap64 (Int.tmod a1_0 300)))) t203 _ ?side1 ?side2 A6.out).mono ?_); (case side1 => repeat (first | exact (Kd.C_below HR0.out HB.out) | (with_reducible refine Kd.C_alloc ?_ _) | (with_reducible refine Kd.C_drewN ?_ _) | (with_reducible refine Kd.C_drew ?_))); (case side2 => exact HC0.out); rintro e w69 ⟨v204, rfl, ho0, hb⟩; refine ⟨_, rfl, ?_⟩; have n0_ := Aside0.mk (Kd.R_lower ho0 (below_size (by repeat (first | (with_reducible first | exact HB.out | apply below_alloc | apply pw_below_drewN | apply below_drew1 | refine below_set ?_ GE201.out) | exact HB.out)))); have n1_ := Aside0.mk (blk_below (g := gb201) (o := .cells #[.int .u16 a1_0, .int .u16 a1_1, .int .u16 a1_2] 76 (0, 0)) (by (with_reducible repeat (first | refine blk_drewN ?_ _ | refine blk_drew ?_ | refine blk_alloc ?_ _)); exact BK201.out) hb); have n2_ := Aside0.mk (below_step (by repeat (first | (with_reducible first | exact HB.out | apply below_alloc | apply pw_below_drewN | apply below_drew1 | refine below_set ?_ GE201.out) | exact HB.out)) hb); clear BK201; clear HB; have HO205 := n0_; have BK201 := n1_; have HB := n2_; clear n0_ n1_ n2_; (try clear hb); (try clear hb2); (try clear hk); (try clear hi); (try clear ho0); have hcz70_0 : w69.cell? ⟨gb201, 0, none⟩ = some (.int .u16 a1_0) := (blk_cell BK201.out 0).trans rfl; have hcz70_1 : w69.cell? ⟨gb201, 1, none⟩ = some (.int .u16 a1_1) := (blk_cell BK201.out 1).trans rfl; have hcz70_2 : w69.cell? ⟨gb201, 2, none⟩ = some (.int .u16 a1_2) := (blk_cell BK201.out 2).trans rfl; have hfz70_0 := blk_frozen BK201.out 0; have hfz70_1 := blk_frozen BK201.out 1; have hfz70_2 := blk_frozen BK201.out 2; obtain ⟨Ao71, co71, eo71⟩ := Kd.R_slice HO205.out; subst eo71) | ((with_reducible refine gate_callee (f := 59) rfl ?_); refine goesL_ (some 33) rfl rfl Try.func59 (by kernel_rfl) rfl #[.slice Ao71 t203.length co71] rfl (by (try simp only [List.map_toArray, List.map_cons, List.map_nil]); first | done | rfl | (simp only [List.length_drop, List.length_take]; rfl)) ?_; (with_reducible refine (seal_Root.calls k _ _ t203 t206 _ ?side1 ?side2 A8.out).mono ?_); (case side1 => repeat (first | exact (Kd.R_reads' HO205.out).2.2 | (with_reducible refine Kd.C_alloc ?_ _) | (with_reducible refine Kd.C_drewN ?_ _) | (with_reducible refine Kd.C_drew ?_))); (case side2 => exact (Kd.R_reads' HO205.out).2.1); rintro e w72 ⟨rfl, hb⟩; refine ⟨_, rfl, ?_⟩; have n0_ := Aside0.mk (Kd.R_below (by (with_reducible repeat (first | apply Kd.R_alloc | apply Kd.R_drewN | apply Kd.R_drew)); exact HO205.out) hb); have n1_ := Aside0.mk (blk_below (g := gb201) (o := .cells #[.int .u16 a1_0, .int .u16 a1_1, .int .u16 a1_2] 76 (0, 0)) (by (with_reducible repeat (first | refine blk_drewN ?_ _ | refine blk_drew ?_ | refine blk_alloc ?_ _)); exact BK201.out) hb); have n2_ := Aside0.mk (below_step (by repeat (first | (with_reducible first | exact HB.out | apply below_alloc | apply pw_below_drewN | apply below_drew1 | refine below_set ?_ GE201.out) | exact HB.out)) hb); clear HO205; clear BK201; clear HB; have HO205 := n0_; have BK201 := n1_; have HB := n2_; clear n0_ n1_ n2_; (try clear hb); (try clear hb2); (try clear hk); (try clear hi)) | ((with_reducible refine gate_callee (f := 60) rfl ?_); refine goesL_ (some 36) rfl rfl Try.func60 (by kernel_rfl) rfl #[.slice Ao71 t203.length co71, .int .i64 ji10] rfl (by (try simp only [List.map_toArray, List.map_cons, List.map_nil]); first | done | (simp only [hji10]; rfl) | rfl | (simp only [List.length_drop, List.length_take]; rfl)) ?_; (with_reducible refine (plexuslaw03_opened.calls k _ _ t203 ji10 t207 t210 _ ?side1 ?side2 A9.out).mono ?_); (case side1 => repeat (first | exact (Kd.R_reads' HO205.out).2.2 | (with_reducible refine Kd.C_alloc ?_ _) | (with_reducible refine Kd.C_drewN ?_ _) | (with_reducible refine Kd.C_drew ?_))); (case side2 => exact (Kd.R_reads' HO205.out).2.1); rintro e w73 ⟨v208, rfl, ho0, hb⟩; refine ⟨_, rfl, ?_⟩; have n0_ := Aside0.mk (Kd.R_elder' (by (with_reducible repeat (first | apply Kd.R_alloc | apply Kd.R_drewN | apply Kd.R_drew)); exact HO205.out) (Kd.R_base ho0) hb); have n1_ := Aside0.mk (Kd.R_lower (Kd.R_new' ho0 (Kd.R_lt (by (with_reducible repeat (first | apply Kd.R_alloc | apply Kd.R_drewN | apply Kd.R_drew)); exact HO205.out))) (below_size (by repeat (first | (with_reducible first | exact HB.out | apply below_alloc | apply pw_below_drewN | apply below_drew1 | refine below_set ?_ GE201.out) | exact HB.out)))); have n2_ := Aside0.mk (blk_below (g := gb201) (o := .cells #[.int .u16 a1_0, .int .u16 a1_1, .int .u16 a1_2] 76 (0, 0)) (by (with_reducible repeat (first | refine blk_drewN ?_ _ | refine blk_drew ?_ | refine blk_alloc ?_ _)); exact BK201.out) hb); have n3_ := Aside0.mk (below_step (by repeat (first | (with_reducible first | exact HB.out | apply below_alloc | apply pw_below_drewN | apply below_drew1 | refine below_set ?_ GE201.out) | exact HB.out)) hb); clear HO205; clear BK201; clear HB; have HO205 := n0_; have HO209 := n1_; have BK201 := n2_; have HB := n3_; clear n0_ n1_ n2_ n3_; (try clear hb); (try clear hb2); (try clear hk); (try clear hi); (try clear ho0)) | ((with_reducible refine gate_dst (N := 11) rfl ?_); (try (refine gate_guard (by rfl) ?_; dsimp only)); refine box_event ?hg (N := 11) ?hd (cs := #[.slice none 0 0, .int .i64 0]) (t := 80) ?hr ?_; (case hd => rfl); (case hg => rfl); (case hr => first | (go_simp; done) | (go_simp; rfl)); intro gb211 hg w74 hbox hb; have n0_ := Aside0.mk (Kd.R_below (by (with_reducible repeat (first | apply Kd.R_alloc | apply Kd.R_drewN | apply Kd.R_drew)); exact HO205.out) hb); have n1_ := Aside0.mk (Kd.R_below (by (with_reducible repeat (first | apply Kd.R_alloc | apply Kd.R_drewN | apply Kd.R_drew)); exact HO209.out) hb); have n2_ := Aside0.mk (blk_below (g := gb201) (o := .cells #[.int .u16 a1_0, .int .u16 a1_1, .int .u16 a1_2] 76 (0, 0)) (by (with_reducible repeat (first | refine blk_drewN ?_ _ | refine blk_drew ?_ | refine blk_alloc ?_ _)); exact BK201.out) hb); have n3_ := Aside0.mk (below_step (by repeat (first | (with_reducible first | exact HB.out | apply below_alloc | apply pw_below_drewN | apply below_drew1 | refine below_set ?_ GE201.out) | exact HB.out)) hb); have n4_ := Aside0.mk (hbox); have n5_ := Aside0.mk ((by rw [hg]; exact (below_size (by repeat (first | (with_reducible first | exact HB.out | apply below_alloc | apply pw_below_drewN | apply below_drew1 | refine below_set ?_ GE201.out) | exact HB.out))) : w.heap.size ≤ gb211)); have n6_ := Aside0.mk ((by rw [hg]; exact (below_size (by repeat (first | (with_reducible first | exact HB.out | apply below_alloc | apply pw_below_drewN | apply below_drew1 | refine below_set ?_ GE201.out) | exact HB.out))) : w.heap.size ≤ gb211)); have n7_ := Aside0.mk ((by rw [hg]; exact Nat.ne_of_lt (blk_lt (g := gb201) (o := .cells #[.int .u16 a1_0, .int .u16 a1_1, .int .u16 a1_2] 76 (0, 0)) (by (with_reducible repeat (first | refine blk_drewN ?_ _ | refine blk_drew ?_ | refine blk_alloc ?_ _)); exact BK201.out)) : gb201 ≠ gb211)); have n8_ := Aside0.mk ((by rw [hg]; exact Nat.ne_of_gt (blk_lt (g := gb201) (o := .cells #[.int .u16 a1_0, .int .u16 a1_1, .int .u16 a1_2] 76 (0, 0)) (by (with_reducible repeat (first | refine blk_drewN ?_ _ | refine blk_drew ?_ | refine blk_alloc ?_ _)); exact BK201.out)) : gb211 ≠ gb201)); clear HO205; clear HO209; clear BK201; clear HB; have HO205 := n0_; have HO209 := n1_; have BK201 := n2_; have HB := n3_; have BK211 := n4_; have GW211 := n5_; have GE211 := n6_; have NB201_211 := n7_; have NB211_201 := n8_; clear n0_ n1_ n2_ n3_ n4_ n5_ n6_ n7_ n8_; clear hb hbox hg; obtain ⟨Ao75, co75, eo75⟩ := Kd.R_slice HO209.out; subst eo75; have hnb76 := NB211_201.out; have hnc76 := NB201_211.out; have hcz77_0 : w74.cell? ⟨gb211, 0, none⟩ = some (.slice none 0 0) := (blk_cell BK211.out 0).trans rfl; have hcz77_1 : w74.cell? ⟨gb211, 1, none⟩ = some (.int .i64 0) := (blk_cell BK211.out 1).trans rfl; have hfz77_0 := blk_frozen BK211.out 0; have hfz77_1 := blk_frozen BK211.out 1; have p212 : 0 ≤ ((ji10) : Int) := of_decide_eq_true (by first | (with_reducible assumption) | assumption); have q212 : (ji10) < (t203.length : Int) := of_decide_eq_true (by first | (with_reducible assumption) | assumption); obtain ⟨ad212, e212, hx212_0⟩ := Kd.at_int (Kd.R_reads' HO205.out).2.2 (ji10) p212 q212; cases e212; have hn212_0 : ad212.block ≠ gb211 := Kd.own_blk (Kd.R_ne HO205.out BK211.out (by decide)); have hn212_1 : ad212.block ≠ gb211 := Kd.own_blk (Kd.R_ne HO205.out BK211.out (by decide)); replace hx212_0 := (cell_far (p := ⟨gb211, 0, none⟩) (by first | (rw [add_block]; exact hn212_0) | (show (Addr.add _ _).block ≠ _; rw [add_block]; exact hn212_0) | exact hn212_0) (.slice Ao75 t207.length co75)).trans hx212_0; replace hx212_0 := (cell_far (p := ⟨gb211, 1, none⟩) (by first | (rw [add_block]; exact hn212_1) | (show (Addr.add _ _).block ≠ _; rw [add_block]; exact hn212_1) | exact hn212_1) (.int .i64 t210)).trans hx212_0; clear hn212_0; clear hn212_1; replace p212 := eq_true p212; replace q212 := eq_true q212) | ((with_reducible refine gate_dst (N := 12) rfl ?_); (try (refine gate_guard (by rfl) ?_; dsimp only)); refine box_event ?hg (N := 12) ?hd (cs := #[.int .i64 0, .int .u64 0]) (t := 83) ?hr ?_; (case hd => rfl); (case hg => rfl); (case hr => first | (go_simp; done) | (go_simp; rfl)); intro gb213 hg w78 hbox hb; have n0_ := Aside0.mk (Kd.R_below (by (with_reducible repeat (first | apply Kd.R_alloc | apply Kd.R_drewN | apply Kd.R_drew)); exact (Kd.R_mono (Kd.R_far (p := ⟨gb211, 1, none⟩) (Kd.R_far (p := ⟨gb211, 0, none⟩) (Kd.R_types HO205.out BK211.out (by decide)) (fun _ hk => hk.2) (.slice Ao75 t207.length co75)) (fun _ hk => hk.2) (.int .i64 t210)) (fun _ h_ => h_.1))) hb); have n1_ := Aside0.mk (Kd.R_below (by (with_reducible repeat (first | apply Kd.R_alloc | apply Kd.R_drewN | apply Kd.R_drew)); exact (Kd.R_mono (Kd.R_far (p := ⟨gb211, 1, none⟩) (Kd.R_far (p := ⟨gb211, 0, none⟩) (Kd.R_types HO209.out BK211.out (by decide)) (fun _ hk => hk.2) (.slice Ao75 t207.length co75)) (fun _ hk => hk.2) (.int .i64 t210)) (fun _ h_ => h_.1))) hb); have n2_ := Aside0.mk (blk_below (g := gb201) (o := .cells #[.int .u16 a1_0, .int .u16 a1_1, .int .u16 a1_2] 76 (0, 0)) (by (with_reducible repeat (first | refine blk_drewN ?_ _ | refine blk_drew ?_ | refine blk_alloc ?_ _)); refine blk_far ?_ NB201_211.out _; (with_reducible repeat (first | refine blk_drewN ?_ _ | refine blk_drew ?_ | refine blk_alloc ?_ _)); refine blk_far ?_ NB201_211.out _; (with_reducible repeat (first | refine blk_drewN ?_ _ | refine blk_drew ?_ | refine blk_alloc ?_ _)); exact BK201.out) hb); have n3_ := Aside0.mk (blk_below (g := gb211) (o := .cells #[.slice Ao75 t207.length co75, .int .i64 t210] 80 (0, 0)) (by (with_reducible repeat (first | refine blk_drewN ?_ _ | refine blk_drew ?_ | refine blk_alloc ?_ _)); refine blk_put (cs := #[.slice Ao75 t207.length co75, .int .i64 0]) ?_ 1 _ rfl; (with_reducible repeat (first | refine blk_drewN ?_ _ | refine blk_drew ?_ | refine blk_alloc ?_ _)); refine blk_put (cs := #[.slice none 0 0, .int .i64 0]) ?_ 0 _ rfl; (with_reducible repeat (first | refine blk_drewN ?_ _ | refine blk_drew ?_ | refine blk_alloc ?_ _)); exact BK211.out) hb); have n4_ := Aside0.mk (below_step (by repeat (first | (with_reducible first | exact HB.out | apply below_alloc | apply pw_below_drewN | apply below_drew1 | refine below_set ?_ GE201.out | refine below_set ?_ GE211.out) | exact HB.out)) hb); have n5_ := Aside0.mk (hbox); have n6_ := Aside0.mk ((by rw [hg]; exact (below_size (by repeat (first | (with_reducible first | exact HB.out | apply below_alloc | apply pw_below_drewN | apply below_drew1 | refine below_set ?_ GE201.out | refine below_set ?_ GE211.out) | exact HB.out))) : w.heap.size ≤ gb213)); have n7_ := Aside0.mk ((by rw [hg]; exact (below_size (by repeat (first | (with_reducible first | exact HB.out | apply below_alloc | apply pw_below_drewN | apply below_drew1 | refine below_set ?_ GE201.out | refine below_set ?_ GE211.out) | exact HB.out))) : w.heap.size ≤ gb213)); have n8_ := Aside0.mk ((by rw [hg]; exact Nat.ne_of_lt (blk_lt (g := gb201) (o := .cells #[.int .u16 a1_0, .int .u16 a1_1, .int .u16 a1_2] 76 (0, 0)) (by (with_reducible repeat (first | refine blk_drewN ?_ _ | refine blk_drew ?_ | refine blk_alloc ?_ _)); refine blk_far ?_ NB201_211.out _; (with_reducible repeat (first | refine blk_drewN ?_ _ | refine blk_drew ?_ | refine blk_alloc ?_ _)); refine blk_far ?_ NB201_211.out _; (with_reducible repeat (first | refine blk_drewN ?_ _ | refine blk_drew ?_ | refine blk_alloc ?_ _)); exact BK201.out)) : gb201 ≠ gb213)); have n9_ := Aside0.mk ((by rw [hg]; exact Nat.ne_of_gt (blk_lt (g := gb201) (o := .cells #[.int .u16 a1_0, .int .u16 a1_1, .int .u16 a1_2] 76 (0, 0)) (by (with_reducible repeat (first | refine blk_drewN ?_ _ | refine blk_drew ?_ | refine blk_alloc ?_ _)); refine blk_far ?_ NB201_211.out _; (with_reducible repeat (first | refine blk_drewN ?_ _ | refine blk_drew ?_ | refine blk_alloc ?_ _)); refine blk_far ?_ NB201_211.out _; (with_reducible repeat (first | refine blk_drewN ?_ _ | refine blk_drew ?_ | refine blk_alloc ?_ _)); exact BK201.out)) : gb213 ≠ gb201)); have n10_ := Aside0.mk ((by rw [hg]; exact Nat.ne_of_lt (blk_lt (g := gb211) (o := .cells #[.slice Ao75 t207.length co75, .int .i64 t210] 80 (0, 0)) (by (with_reducible repeat (first | refine blk_drewN ?_ _ | refine blk_drew ?_ | refine blk_alloc ?_ _)); refine blk_put (cs := #[.slice Ao75 t207.length co75, .int .i64 0]) ?_ 1 _ rfl; (with_reducible repeat (first | refine blk_drewN ?_ _ | refine blk_drew ?_ | refine blk_alloc ?_ _)); refine blk_put (cs := #[.slice none 0 0, .int .i64 0]) ?_ 0 _ rfl; (with_reducible repeat (first | refine blk_drewN ?_ _ | refine blk_drew ?_ | refine blk_alloc ?_ _)); exact BK211.out)) : gb211 ≠ gb213)); have n11_ := Aside0.mk ((by rw [hg]; exact Nat.ne_of_gt (blk_lt (g := gb211) (o := .cells #[.slice Ao75 t207.length co75, .int .i64 t210] 80 (0, 0)) (by (with_reducible repeat (first | refine blk_drewN ?_ _ | refine blk_drew ?_ | refine blk_alloc ?_ _)); refine blk_put (cs := #[.slice Ao75 t207.length co75, .int .i64 0]) ?_ 1 _ rfl; (with_reducible repeat (first | refine blk_drewN ?_ _ | refine blk_drew ?_ | refine blk_alloc ?_ _)); refine blk_put (cs := #[.slice none 0 0, .int .i64 0]) ?_ 0 _ rfl; (with_reducible repeat (first | refine blk_drewN ?_ _ | refine blk_drew ?_ | refine blk_alloc ?_ _)); exact BK211.out)) : gb213 ≠ gb211)); clear HO205; clear HO209; clear BK201; clear BK211; clear HB; have HO205 := n0_; have HO209 := n1_; have BK201 := n2_; have BK211 := n3_; have HB := n4_; have BK213 := n5_; have GW213 := n6_; have GE213 := n7_; have NB201_213 := n8_; have NB213_201 := n9_; have NB211_213 := n10_; have NB213_211 := n11_; clear n0_ n1_ n2_ n3_ n4_ n5_ n6_ n7_ n8_ n9_ n10_ n11_; clear hb hbox hg; have hnb79 := NB213_201.out; have hnc79 := NB201_213.out; have hnb80 := NB213_211.out; have hnc80 := NB211_213.out; have hcz81_0 : w78.cell? ⟨gb213, 0, none⟩ = some (.int .i64 0) := (blk_cell BK213.out 0).trans rfl; have hcz81_1 : w78.cell? ⟨gb213, 1, none⟩ = some (.int .u64 0) := (blk_cell BK213.out 1).trans rfl; have hfz81_0 := blk_frozen BK213.out 0; have hfz81_1 := blk_frozen BK213.out 1))
                                        have n0_ : Aside0 (Kd.R (Kd.int .u64) 72 ((w78.setCell ⟨gb213, 0, none⟩ (.int .i64 ji10)).setCell ⟨gb213, 1, none⟩ (.int .u64 (rd t203 (ji10)))) w.heap.size (fun k_ => some k_ ≠ (.slice Ao75 t207.length co75 : Value).ownBlock) (.slice (some ad212) t203.length co71) t203) := ⟨by (with_reducible repeat (first | apply Kd.R_alloc | apply Kd.R_drewN | apply Kd.R_drew)); exact Kd.R_mono (Kd.R_far (p := ⟨gb213, 1, none⟩) (Kd.R_far (p := ⟨gb213, 0, none⟩) (Kd.R_types HO205.out BK213.out (by decide)) (fun _ hk => hk.2) (.int .i64 ji10)) (fun _ hk => hk.2) (.int .u64 (rd t203 (ji10)))) (fun _ hk => hk.1.2)⟩
                                        have n1_ : Aside0 (Kd.R (Kd.int .u64) 72 ((w78.setCell ⟨gb213, 0, none⟩ (.int .i64 ji10)).setCell ⟨gb213, 1, none⟩ (.int .u64 (rd t203 (ji10)))) w.heap.size (fun k_ => some k_ ≠ (.slice (some ad212) t203.length co71 : Value).ownBlock) (.slice Ao75 t207.length co75) t207) := ⟨by (with_reducible repeat (first | apply Kd.R_alloc | apply Kd.R_drewN | apply Kd.R_drew)); exact Kd.R_mono (Kd.R_far (p := ⟨gb213, 1, none⟩) (Kd.R_far (p := ⟨gb213, 0, none⟩) (Kd.R_types HO209.out BK213.out (by decide)) (fun _ hk => hk.2) (.int .i64 ji10)) (fun _ hk => hk.2) (.int .u64 (rd t203 (ji10)))) (fun _ hk => hk.1.2)⟩
                                        have n2_ : Aside0 (((w78.setCell ⟨gb213, 0, none⟩ (.int .i64 ji10)).setCell ⟨gb213, 1, none⟩ (.int .u64 (rd t203 (ji10)))).heap[gb201]? = some (.cells #[.int .u16 a1_0, .int .u16 a1_1, .int .u16 a1_2] 76 (0, 0))) := ⟨by (with_reducible repeat (first | refine blk_drewN ?_ _ | refine blk_drew ?_ | refine blk_alloc ?_ _)); refine blk_far ?_ NB201_213.out _; (with_reducible repeat (first | refine blk_drewN ?_ _ | refine blk_drew ?_ | refine blk_alloc ?_ _)); refine blk_far ?_ NB201_213.out _; (with_reducible repeat (first | refine blk_drewN ?_ _ | refine blk_drew ?_ | refine blk_alloc ?_ _)); exact BK201.out⟩
                                        have n3_ : Aside0 (((w78.setCell ⟨gb213, 0, none⟩ (.int .i64 ji10)).setCell ⟨gb213, 1, none⟩ (.int .u64 (rd t203 (ji10)))).heap[gb211]? = some (.cells #[.slice Ao75 t207.length co75, .int .i64 t210] 80 (0, 0))) := ⟨by (with_reducible repeat (first | refine blk_drewN ?_ _ | refine blk_drew ?_ | refine blk_alloc ?_ _)); refine blk_far ?_ NB211_213.out _; (with_reducible repeat (first | refine blk_drewN ?_ _ | refine blk_drew ?_ | refine blk_alloc ?_ _)); refine blk_far ?_ NB211_213.out _; (with_reducible repeat (first | refine blk_drewN ?_ _ | refine blk_drew ?_ | refine blk_alloc ?_ _)); exact BK211.out⟩
                                        have n4_ : Aside0 (((w78.setCell ⟨gb213, 0, none⟩ (.int .i64 ji10)).setCell ⟨gb213, 1, none⟩ (.int .u64 (rd t203 (ji10)))).heap[gb213]? = some (.cells #[.int .i64 ji10, .int .u64 (rd t203 (ji10))] 83 (0, 0))) := ⟨by (with_reducible repeat (first | refine blk_drewN ?_ _ | refine blk_drew ?_ | refine blk_alloc ?_ _)); refine blk_put (cs := #[.int .i64 ji10, .int .u64 0]) ?_ 1 _ rfl; (with_reducible repeat (first | refine blk_drewN ?_ _ | refine blk_drew ?_ | refine blk_alloc ?_ _)); refine blk_put (cs := #[.int .i64 0, .int .u64 0]) ?_ 0 _ rfl; (with_reducible repeat (first | refine blk_drewN ?_ _ | refine blk_drew ?_ | refine blk_alloc ?_ _)); exact BK213.out⟩
                                        have n5_ : Aside0 (Below w.heap.size w ((w78.setCell ⟨gb213, 0, none⟩ (.int .i64 ji10)).setCell ⟨gb213, 1, none⟩ (.int .u64 (rd t203 (ji10))))) := ⟨by repeat (first | (with_reducible first | exact HB.out | apply below_alloc | apply pw_below_drewN | apply below_drew1 | refine below_set ?_ GE201.out | refine below_set ?_ GE211.out | refine below_set ?_ GE213.out) | exact HB.out)⟩
                                        (try clear HO205)
                                        (try clear HO209)
                                        (try clear BK201)
                                        (try clear BK211)
                                        (try clear BK213)
                                        (try clear HB)
                                        generalize ((w78.setCell ⟨gb213, 0, none⟩ (.int .i64 ji10)).setCell ⟨gb213, 1, none⟩ (.int .u64 (rd t203 (ji10)))) = w82 at n0_ n1_ n2_ n3_ n4_ n5_ ⊢
                                        have HO205 := n0_
                                        have HO209 := n1_
                                        have BK201 := n2_
                                        have BK211 := n3_
                                        have BK213 := n4_
                                        have HB := n5_
                                        clear n0_ n1_ n2_ n3_ n4_ n5_
                                        have n0_ := Aside0.mk (Kd.R_drew HO205.out)
                                        have n1_ := Aside0.mk (Kd.R_drew HO209.out)
                                        have n2_ := Aside0.mk (blk_drew BK201.out)
                                        have n3_ := Aside0.mk (blk_drew BK211.out)
                                        have n4_ := Aside0.mk (blk_drew BK213.out)
                                        have n5_ := Aside0.mk (below_drew1 HB.out)
                                        clear HO205
                                        clear HO209
                                        clear BK201
                                        clear BK211
                                        clear BK213
                                        clear HB
                                        have HO205 := n0_
                                        have HO209 := n1_
                                        have BK201 := n2_
                                        have BK211 := n3_
                                        have BK213 := n4_
                                        have HB := n5_
                                        clear n0_ n1_ n2_ n3_ n4_ n5_
                                        have p216 : 0 ≤ ((ji10) : Int) := of_decide_eq_true (by first | (with_reducible assumption) | assumption)
                                        have q216 : (ji10) < (t203.length : Int) := of_decide_eq_true (by first | (with_reducible assumption) | assumption)
                                        obtain ⟨ad216, e216, hx216_0⟩ := Kd.at_int (Kd.R_reads' HO205.out).2.2 (ji10) p216 q216
                                        obtain rfl : ad212 = ad216 := (by injection e216)
                                        replace p216 := eq_true p216
                                        replace q216 := eq_true q216
                                        refine start_ (n := 34) (S := fun w' => w'.cell? ⟨gb211, 0, none⟩ = some (.slice Ao75 t207.length co75) ∧ w'.cell? ⟨gb211, 1, none⟩ = some (.int .i64 t210) ∧ w'.cell? ⟨gb213, 0, none⟩ = some (.int .i64 ji10) ∧ w'.cell? ⟨gb213, 1, none⟩ = some (.int .u64 (rd t203 (ji10))) ∧ w'.cell? (ad212.add ((ji10)).toNat) = some (.int .u64 (rd t203 (ji10)))) (ds := []) #[false, false, false, false, false, false, false, false, false, false, false, false, false, false, false, false, false, false, false, false, false, false, false, false, false, false, false, false, false, false, false, false, false, false] (by kernel_rfl) rfl rfl ⟨(blk_cell BK211.out 0).trans rfl, (blk_cell BK211.out 1).trans rfl, (blk_cell BK213.out 0).trans rfl, (blk_cell BK213.out 1).trans rfl, hx216_0⟩ (fun hHeld => ?_); refine with_tabW plexuslaw03_SealOpens.tab8 plexuslaw03_SealOpens.bits8 (fun HT_ HW_ => ?_)
                                        generalize w82.drew = w83 at HO205 HO209 BK201 BK211 BK213 HB hx216_0 hHeld ⊢
                                        refine pure_ (i := 0) (N := some 43) (v := ?_) (a' := ?_) #[true, false, false, false, false, false, false, false, false, false, false, false, false, false, false, false, false, false, false, false, false, false, false, false, false, false, false, false, false, false, false, false, false, false] rfl rfl (any_of HT_.out (by kernel_rfl)) (fun _ _ _ h => h) (Or.inl ⟨by rfl, ?_⟩) ?_ ?_
                                        rotate_left
                                        · intro w'
                                          go_simp
                                          with_reducible rfl
                                        rotate_left
                                        · simp only [Act.put, List.setIfInBounds_toArray, List.set_cons_zero, List.set_cons_succ, i64_w, i32_w]
                                          rfl
                                        refine take_ (i := 1) (N := some 44) (v := ?_) (a' := ?_) #[true, true, false, false, false, false, false, false, false, false, false, false, false, false, false, false, false, false, false, false, false, false, false, false, false, false, false, false, false, false, false, false, false, false] rfl rfl (take_ofW HT_.out HW_.out (by kernel_rfl)) (fun _ _ _ h => h) (Or.inl ⟨by rfl, ?_⟩) hHeld ?_ ?_
                                        rotate_left
                                        · rintro w' ⟨s0, s1, s2, s3, s4⟩
                                          go_simp
                                          with_reducible rfl
                                        rotate_left
                                        · simp only [Act.put, List.setIfInBounds_toArray, List.set_cons_zero, List.set_cons_succ, i64_w, i32_w]
                                          rfl
                                        refine pure_ (i := 2) (N := some 45) (v := ?_) (a' := ?_) #[true, true, true, false, false, false, false, false, false, false, false, false, false, false, false, false, false, false, false, false, false, false, false, false, false, false, false, false, false, false, false, false, false, false] rfl rfl (any_of HT_.out (by kernel_rfl)) (fun _ _ _ h => h) (Or.inl ⟨by rfl, ?_⟩) ?_ ?_
                                        rotate_left
                                        · intro w'
                                          go_simp
                                          with_reducible rfl
                                        rotate_left
                                        · simp only [Act.put, List.setIfInBounds_toArray, List.set_cons_zero, List.set_cons_succ, i64_w, i32_w]
                                          rfl
                                        refine pure_ (i := 3) (N := some 46) (v := ?_) (a' := ?_) #[true, true, true, true, false, false, false, false, false, false, false, false, false, false, false, false, false, false, false, false, false, false, false, false, false, false, false, false, false, false, false, false, false, false] rfl rfl (any_of HT_.out (by kernel_rfl)) (fun _ _ _ h => h) (Or.inl ⟨by rfl, ?_⟩) ?_ ?_
                                        rotate_left
                                        · intro w'
                                          go_simp
                                          with_reducible rfl
                                        rotate_left
                                        · simp only [Act.put, List.setIfInBounds_toArray, List.set_cons_zero, List.set_cons_succ, i64_w, i32_w]
                                          rfl
                                        refine pure_ (i := 4) (N := some 47) (v := ?_) (a' := ?_) #[true, true, true, true, true, false, false, false, false, false, false, false, false, false, false, false, false, false, false, false, false, false, false, false, false, false, false, false, false, false, false, false, false, false] rfl rfl (any_of HT_.out (by kernel_rfl)) (fun _ _ _ h => h) (Or.inl ⟨by rfl, ?_⟩) ?_ ?_
                                        rotate_left
                                        · intro w'
                                          go_simp
                                          with_reducible rfl
                                        rotate_left
                                        · simp only [Act.put, List.setIfInBounds_toArray, List.set_cons_zero, List.set_cons_succ, i64_w, i32_w]
                                          rfl
                                        refine pure_ (i := 5) (N := some 48) (v := ?_) (a' := ?_) #[true, true, true, true, true, true, false, false, false, false, false, false, false, false, false, false, false, false, false, false, false, false, false, false, false, false, false, false, false, false, false, false, false, false] rfl rfl (any_of HT_.out (by kernel_rfl)) (fun _ _ _ h => h) (Or.inl ⟨by rfl, ?_⟩) ?_ ?_
                                        rotate_left
                                        · intro w'
                                          go_simp
                                          with_reducible rfl
                                        rotate_left
                                        · simp only [Act.put, List.setIfInBounds_toArray, List.set_cons_zero, List.set_cons_succ, i64_w, i32_w]
                                          rfl
                                        refine pure_ (i := 6) (N := some 49) (v := ?_) (a' := ?_) #[true, true, true, true, true, true, true, false, false, false, false, false, false, false, false, false, false, false, false, false, false, false, false, false, false, false, false, false, false, false, false, false, false, false] rfl rfl (any_of HT_.out (by kernel_rfl)) (fun _ _ _ h => h) (Or.inl ⟨by rfl, ?_⟩) ?_ ?_
                                        rotate_left
                                        · intro w'
                                          go_simp
                                          with_reducible rfl
                                        rotate_left
                                        · simp only [Act.put, List.setIfInBounds_toArray, List.set_cons_zero, List.set_cons_succ, i64_w, i32_w]
                                          rfl
                                        refine pure_ (i := 7) (N := some 50) (v := ?_) (a' := ?_) #[true, true, true, true, true, true, true, true, false, false, false, false, false, false, false, false, false, false, false, false, false, false, false, false, false, false, false, false, false, false, false, false, false, false] rfl rfl (any_of HT_.out (by kernel_rfl)) (fun _ _ _ h => h) (Or.inl ⟨by rfl, ?_⟩) ?_ ?_
                                        rotate_left
                                        · intro w'
                                          go_simp
                                          with_reducible rfl
                                        rotate_left
                                        · simp only [Act.put, List.setIfInBounds_toArray, List.set_cons_zero, List.set_cons_succ, i64_w, i32_w]
                                          rfl
                                        refine take_ (i := 8) (N := some 51) (v := ?_) (a' := ?_) #[true, true, true, true, true, true, true, true, true, false, false, false, false, false, false, false, false, false, false, false, false, false, false, false, false, false, false, false, false, false, false, false, false, false] rfl rfl (take_ofW HT_.out HW_.out (by kernel_rfl)) (fun _ _ _ h => h) (Or.inl ⟨by rfl, ?_⟩) hHeld ?_ ?_
                                        rotate_left
                                        · rintro w' ⟨s0, s1, s2, s3, s4⟩
                                          go_simp
                                          with_reducible rfl
                                        rotate_left
                                        · simp only [Act.put, List.setIfInBounds_toArray, List.set_cons_zero, List.set_cons_succ, i64_w, i32_w]
                                          rfl
                                        refine pure_ (i := 9) (N := some 52) (v := ?_) (a' := ?_) #[true, true, true, true, true, true, true, true, true, true, false, false, false, false, false, false, false, false, false, false, false, false, false, false, false, false, false, false, false, false, false, false, false, false] rfl rfl (any_of HT_.out (by kernel_rfl)) (fun _ _ _ h => h) (Or.inl ⟨by rfl, ?_⟩) ?_ ?_
                                        rotate_left
                                        · intro w'
                                          go_simp
                                          with_reducible rfl
                                        rotate_left
                                        · simp only [Act.put, List.setIfInBounds_toArray, List.set_cons_zero, List.set_cons_succ, i64_w, i32_w]
                                          rfl
                                        refine take_ (i := 10) (N := some 53) (v := ?_) (a' := ?_) #[true, true, true, true, true, true, true, true, true, true, true, false, false, false, false, false, false, false, false, false, false, false, false, false, false, false, false, false, false, false, false, false, false, false] rfl rfl (take_ofW HT_.out HW_.out (by kernel_rfl)) (fun _ _ _ h => h) (Or.inl ⟨by rfl, ?_⟩) hHeld ?_ ?_
                                        rotate_left
                                        · rintro w' ⟨s0, s1, s2, s3, s4⟩
                                          go_simp
                                          with_reducible rfl
                                        rotate_left
                                        · simp only [Act.put, List.setIfInBounds_toArray, List.set_cons_zero, List.set_cons_succ, i64_w, i32_w]
                                          rfl
                                        refine one_ (i := 11) (N := some 54) #[true, true, true, true, true, true, true, true, true, true, true, true, false, false, false, false, false, false, false, false, false, false, false, false, false, false, false, false, false, false, false, false, false, false] rfl rfl (one_of HT_.out (by kernel_rfl)) (by decide) (fun K hK => ?_)
                                        refine goes_ Try.func61 (by kernel_rfl) rfl #[.int .u64 t206, .agg #[.int .i64 (t203.length : Int), .slice Ao75 t207.length co75], .agg #[.int .i64 ji10, .int .u64 (rd t203 (ji10))]] (by rfl) rfl rfl (by (try simp only [List.map_toArray, List.map_cons, List.map_nil]); first | done | (simp only [hji10]; rfl) | rfl | (simp only [List.length_drop, List.length_take]; rfl)) ?_
                                        with_reducible refine (plexuslaw03_check.calls k t206 (t203.length : Int) _ _ t207 ji10 (rd t203 (ji10)) t214 _ ?side1 ?side2 A14.out).mono ?_
                                        (case side1 => repeat (first | exact (Kd.R_reads' HO209.out).2.2 | (with_reducible refine Kd.C_alloc ?_ _) | (with_reducible refine Kd.C_drewN ?_ _) | (with_reducible refine Kd.C_drew ?_)))
                                        (case side2 => exact (Kd.R_reads' HO209.out).2.1)
                                        rintro e w84 ⟨rfl, hb⟩
                                        have HS4_ := (hb.cell (World.block_lt_of_cell? _ _ (hHeld.2.2.2.2))).trans (hHeld.2.2.2.2)
                                        refine ⟨_, rfl, ?_⟩
                                        have n0_ := Aside0.mk (Kd.R_below (by (with_reducible repeat (first | apply Kd.R_alloc | apply Kd.R_drewN | apply Kd.R_drew)); exact HO205.out) hb)
                                        have n1_ := Aside0.mk (Kd.R_below (by (with_reducible repeat (first | apply Kd.R_alloc | apply Kd.R_drewN | apply Kd.R_drew)); exact HO209.out) hb)
                                        have n2_ := Aside0.mk (blk_below (g := gb201) (o := .cells #[.int .u16 a1_0, .int .u16 a1_1, .int .u16 a1_2] 76 (0, 0)) (by (with_reducible repeat (first | refine blk_drewN ?_ _ | refine blk_drew ?_ | refine blk_alloc ?_ _)); exact BK201.out) hb)
                                        have n3_ := Aside0.mk (blk_below (g := gb211) (o := .cells #[.slice Ao75 t207.length co75, .int .i64 t210] 80 (0, 0)) (by (with_reducible repeat (first | refine blk_drewN ?_ _ | refine blk_drew ?_ | refine blk_alloc ?_ _)); exact BK211.out) hb)
                                        have n4_ := Aside0.mk (blk_below (g := gb213) (o := .cells #[.int .i64 ji10, .int .u64 (rd t203 (ji10))] 83 (0, 0)) (by (with_reducible repeat (first | refine blk_drewN ?_ _ | refine blk_drew ?_ | refine blk_alloc ?_ _)); exact BK213.out) hb)
                                        have n5_ := Aside0.mk (below_step (by repeat (first | (with_reducible first | exact HB.out | apply below_alloc | apply pw_below_drewN | apply below_drew1 | refine below_set ?_ GE201.out | refine below_set ?_ GE211.out | refine below_set ?_ GE213.out) | exact HB.out)) hb)
                                        clear HO205
                                        clear HO209
                                        clear BK201
                                        clear BK211
                                        clear BK213
                                        clear HB
                                        have HO205 := n0_
                                        have HO209 := n1_
                                        have BK201 := n2_
                                        have BK211 := n3_
                                        have BK213 := n4_
                                        have HB := n5_
                                        clear n0_ n1_ n2_ n3_ n4_ n5_
                                        (try clear hb)
                                        (try clear hb2)
                                        (try clear hk)
                                        (try clear hi)
                                        refine hK.out _ _ ⟨(blk_cell BK211.out 0).trans rfl, (blk_cell BK211.out 1).trans rfl, (blk_cell BK213.out 0).trans rfl, (blk_cell BK213.out 1).trans rfl, HS4_⟩ (fun hHeld => ?_)
                                        clear hK K
                                        refine norm_ (a' := ?_) ?_ ?_
                                        rotate_left
                                        · show Act.put _ (some 54) _ = _
                                          simp only [Act.put, List.setIfInBounds_toArray, List.set_cons_zero, List.set_cons_succ, i64_w, i32_w]
                                          rfl
                                        refine pure_ (i := 12) (N := some 55) (v := ?_) (a' := ?_) #[true, true, true, true, true, true, true, true, true, true, true, true, true, false, false, false, false, false, false, false, false, false, false, false, false, false, false, false, false, false, false, false, false, false] rfl rfl (any_of HT_.out (by kernel_rfl)) (fun _ _ _ h => h) (Or.inl ⟨by rfl, ?_⟩) ?_ ?_
                                        rotate_left
                                        · intro w'
                                          go_simp
                                          with_reducible rfl
                                        rotate_left
                                        · simp only [Act.put, List.setIfInBounds_toArray, List.set_cons_zero, List.set_cons_succ, i64_w, i32_w]
                                          rfl
                                        refine pure_ (i := 13) (N := some 56) (v := ?_) (a' := ?_) #[true, true, true, true, true, true, true, true, true, true, true, true, true, true, false, false, false, false, false, false, false, false, false, false, false, false, false, false, false, false, false, false, false, false] rfl rfl (any_of HT_.out (by kernel_rfl)) (fun _ _ _ h => h) (Or.inl ⟨by rfl, ?_⟩) ?_ ?_
                                        rotate_left
                                        · intro w'
                                          go_simp
                                          with_reducible rfl
                                        rotate_left
                                        · simp only [Act.put, List.setIfInBounds_toArray, List.set_cons_zero, List.set_cons_succ, i64_w, i32_w]
                                          rfl
                                        refine pure_ (i := 14) (N := some 57) (v := ?_) (a' := ?_) #[true, true, true, true, true, true, true, true, true, true, true, true, true, true, true, false, false, false, false, false, false, false, false, false, false, false, false, false, false, false, false, false, false, false] rfl rfl (any_of HT_.out (by kernel_rfl)) (fun _ _ _ h => h) (Or.inl ⟨by rfl, ?_⟩) ?_ ?_
                                        rotate_left
                                        · intro w'
                                          go_simp
                                          with_reducible rfl
                                        rotate_left
                                        · simp only [Act.put, List.setIfInBounds_toArray, List.set_cons_zero, List.set_cons_succ, i64_w, i32_w]
                                          rfl
                                        refine pure_ (i := 15) (N := some 58) (v := ?_) (a' := ?_) #[true, true, true, true, true, true, true, true, true, true, true, true, true, true, true, true, false, false, false, false, false, false, false, false, false, false, false, false, false, false, false, false, false, false] rfl rfl (any_of HT_.out (by kernel_rfl)) (fun _ _ _ h => h) (Or.inl ⟨by rfl, ?_⟩) ?_ ?_
                                        rotate_left
                                        · intro w'
                                          go_simp
                                          with_reducible rfl
                                        rotate_left
                                        · simp only [Act.put, List.setIfInBounds_toArray, List.set_cons_zero, List.set_cons_succ, i64_w, i32_w]
                                          rfl
                                        refine pure_ (i := 16) (N := some 59) (v := ?_) (a' := ?_) #[true, true, true, true, true, true, true, true, true, true, true, true, true, true, true, true, true, false, false, false, false, false, false, false, false, false, false, false, false, false, false, false, false, false] rfl rfl (any_of HT_.out (by kernel_rfl)) (fun _ _ _ h => h) (Or.inl ⟨by rfl, ?_⟩) ?_ ?_
                                        rotate_left
                                        · intro w'
                                          go_simp
                                          with_reducible rfl
                                        rotate_left
                                        · simp only [Act.put, List.setIfInBounds_toArray, List.set_cons_zero, List.set_cons_succ, i64_w, i32_w]
                                          rfl
                                        refine pure_ (i := 17) (N := some 60) (v := ?_) (a' := ?_) #[true, true, true, true, true, true, true, true, true, true, true, true, true, true, true, true, true, true, false, false, false, false, false, false, false, false, false, false, false, false, false, false, false, false] rfl rfl (any_of HT_.out (by kernel_rfl)) (fun _ _ _ h => h) (Or.inl ⟨by rfl, ?_⟩) ?_ ?_
                                        rotate_left
                                        · intro w'
                                          go_simp
                                          with_reducible rfl
                                        rotate_left
                                        · simp only [Act.put, List.setIfInBounds_toArray, List.set_cons_zero, List.set_cons_succ, i64_w, i32_w]
                                          rfl
                                        refine pure_ (i := 18) (N := some 61) (v := ?_) (a' := ?_) #[true, true, true, true, true, true, true, true, true, true, true, true, true, true, true, true, true, true, true, false, false, false, false, false, false, false, false, false, false, false, false, false, false, false] rfl rfl (any_of HT_.out (by kernel_rfl)) (fun _ _ _ h => h) (Or.inl ⟨by rfl, ?_⟩) ?_ ?_
                                        rotate_left
                                        · intro w'
                                          go_simp
                                          with_reducible rfl
                                        rotate_left
                                        · simp only [Act.put, List.setIfInBounds_toArray, List.set_cons_zero, List.set_cons_succ, i64_w, i32_w]
                                          rfl
                                        refine pure_ (i := 21) (N := some 64) (v := ?_) (a' := ?_) #[true, true, true, true, true, true, true, true, true, true, true, true, true, true, true, true, true, true, true, false, false, true, false, false, false, false, false, false, false, false, false, false, false, false] rfl rfl (any_of HT_.out (by kernel_rfl)) (fun _ _ _ h => h) (Or.inl ⟨by rfl, ?_⟩) ?_ ?_
                                        rotate_left
                                        · intro w'
                                          go_simp
                                          with_reducible rfl
                                        rotate_left
                                        · simp only [Act.put, List.setIfInBounds_toArray, List.set_cons_zero, List.set_cons_succ, i64_w, i32_w]
                                          rfl
                                        refine pure_ (i := 22) (N := some 65) (v := ?_) (a' := ?_) #[true, true, true, true, true, true, true, true, true, true, true, true, true, true, true, true, true, true, true, false, false, true, true, false, false, false, false, false, false, false, false, false, false, false] rfl rfl (any_of HT_.out (by kernel_rfl)) (fun _ _ _ h => h) (Or.inl ⟨by rfl, ?_⟩) ?_ ?_
                                        rotate_left
                                        · intro w'
                                          go_simp
                                          with_reducible rfl
                                        rotate_left
                                        · simp only [Act.put, List.setIfInBounds_toArray, List.set_cons_zero, List.set_cons_succ, i64_w, i32_w]
                                          rfl
                                        refine pure_ (i := 23) (N := some 66) (v := ?_) (a' := ?_) #[true, true, true, true, true, true, true, true, true, true, true, true, true, true, true, true, true, true, true, false, false, true, true, true, false, false, false, false, false, false, false, false, false, false] rfl rfl (any_of HT_.out (by kernel_rfl)) (fun _ _ _ h => h) (Or.inl ⟨by rfl, ?_⟩) ?_ ?_
                                        rotate_left
                                        · intro w'
                                          go_simp
                                          with_reducible rfl
                                        rotate_left
                                        · simp only [Act.put, List.setIfInBounds_toArray, List.set_cons_zero, List.set_cons_succ, i64_w, i32_w]
                                          rfl
                                        refine pure_ (i := 26) (N := some 69) (v := ?_) (a' := ?_) #[true, true, true, true, true, true, true, true, true, true, true, true, true, true, true, true, true, true, true, false, false, true, true, true, false, false, true, false, false, false, false, false, false, false] rfl rfl (any_of HT_.out (by kernel_rfl)) (fun _ _ _ h => h) (Or.inl ⟨by rfl, ?_⟩) ?_ ?_
                                        rotate_left
                                        · intro w'
                                          go_simp
                                          with_reducible rfl
                                        rotate_left
                                        · simp only [Act.put, List.setIfInBounds_toArray, List.set_cons_zero, List.set_cons_succ, i64_w, i32_w]
                                          rfl
                                        refine pure_ (i := 27) (N := some 70) (v := ?_) (a' := ?_) #[true, true, true, true, true, true, true, true, true, true, true, true, true, true, true, true, true, true, true, false, false, true, true, true, false, false, true, true, false, false, false, false, false, false] rfl rfl (any_of HT_.out (by kernel_rfl)) (fun _ _ _ h => h) (Or.inl ⟨by rfl, ?_⟩) ?_ ?_
                                        rotate_left
                                        · intro w'
                                          go_simp
                                          with_reducible rfl
                                        rotate_left
                                        · simp only [Act.put, List.setIfInBounds_toArray, List.set_cons_zero, List.set_cons_succ, i64_w, i32_w]
                                          rfl
                                        refine pure_ (i := 28) (N := some 71) (v := ?_) (a' := ?_) #[true, true, true, true, true, true, true, true, true, true, true, true, true, true, true, true, true, true, true, false, false, true, true, true, false, false, true, true, true, false, false, false, false, false] rfl rfl (any_of HT_.out (by kernel_rfl)) (fun _ _ _ h => h) (Or.inl ⟨by rfl, ?_⟩) ?_ ?_
                                        rotate_left
                                        · intro w'
                                          go_simp
                                          with_reducible rfl
                                        rotate_left
                                        · simp only [Act.put, List.setIfInBounds_toArray, List.set_cons_zero, List.set_cons_succ, i64_w, i32_w]
                                          rfl
                                        refine pure_ (i := 29) (N := some 72) (v := ?_) (a' := ?_) #[true, true, true, true, true, true, true, true, true, true, true, true, true, true, true, true, true, true, true, false, false, true, true, true, false, false, true, true, true, true, false, false, false, false] rfl rfl (any_of HT_.out (by kernel_rfl)) (fun _ _ _ h => h) (Or.inl ⟨by rfl, ?_⟩) ?_ ?_
                                        rotate_left
                                        · intro w'
                                          go_simp
                                          with_reducible rfl
                                        rotate_left
                                        · simp only [Act.put, List.setIfInBounds_toArray, List.set_cons_zero, List.set_cons_succ, i64_w, i32_w]
                                          rfl
                                        refine take_ (i := 19) (N := some 62) (v := ?_) (a' := ?_) #[true, true, true, true, true, true, true, true, true, true, true, true, true, true, true, true, true, true, true, true, false, true, true, true, false, false, true, true, true, true, false, false, false, false] rfl rfl (take_ofW HT_.out HW_.out (by kernel_rfl)) (fun _ _ _ h => h) (Or.inl ⟨by rfl, ?_⟩) hHeld ?_ ?_
                                        rotate_left
                                        · rintro w' ⟨s0, s1, s2, s3, s4⟩
                                          go_simp
                                          with_reducible rfl
                                        rotate_left
                                        · simp only [Act.put, List.setIfInBounds_toArray, List.set_cons_zero, List.set_cons_succ, i64_w, i32_w]
                                          rfl
                                        refine pure_ (i := 20) (N := some 63) (v := ?_) (a' := ?_) #[true, true, true, true, true, true, true, true, true, true, true, true, true, true, true, true, true, true, true, true, true, true, true, true, false, false, true, true, true, true, false, false, false, false] rfl rfl (any_of HT_.out (by kernel_rfl)) (fun _ _ _ h => h) (Or.inl ⟨by rfl, ?_⟩) ?_ ?_
                                        rotate_left
                                        · intro w'
                                          go_simp
                                          with_reducible rfl
                                        rotate_left
                                        · simp only [Act.put, List.setIfInBounds_toArray, List.set_cons_zero, List.set_cons_succ, i64_w, i32_w]
                                          rfl
                                        refine take_ (i := 30) (N := some 73) (v := ?_) (a' := ?_) #[true, true, true, true, true, true, true, true, true, true, true, true, true, true, true, true, true, true, true, true, true, true, true, true, false, false, true, true, true, true, true, false, false, false] rfl rfl (take_ofW HT_.out HW_.out (by kernel_rfl)) (fun _ _ _ h => h) (Or.inl ⟨by rfl, ?_⟩) hHeld ?_ ?_
                                        rotate_left
                                        · rintro w' ⟨s0, s1, s2, s3, s4⟩
                                          go_simp
                                          with_reducible rfl
                                        rotate_left
                                        · simp only [Act.put, List.setIfInBounds_toArray, List.set_cons_zero, List.set_cons_succ, i64_w, i32_w]
                                          rfl
                                        refine pure_ (i := 31) (N := some 74) (v := ?_) (a' := ?_) #[true, true, true, true, true, true, true, true, true, true, true, true, true, true, true, true, true, true, true, true, true, true, true, true, false, false, true, true, true, true, true, true, false, false] rfl rfl (any_of HT_.out (by kernel_rfl)) (fun _ _ _ h => h) (Or.inl ⟨by rfl, ?_⟩) ?_ ?_
                                        rotate_left
                                        · intro w'
                                          go_simp
                                          with_reducible rfl
                                        rotate_left
                                        · simp only [Act.put, List.setIfInBounds_toArray, List.set_cons_zero, List.set_cons_succ, i64_w, i32_w]
                                          rfl
                                        refine one_ (i := 24) (N := some 67) #[true, true, true, true, true, true, true, true, true, true, true, true, true, true, true, true, true, true, true, true, true, true, true, true, true, false, true, true, true, true, true, true, false, false] rfl rfl (one_of HT_.out (by kernel_rfl)) (by decide) (fun K hK => ?_)
                                        refine goes_ Try.func61 (by kernel_rfl) rfl #[.int .u64 t206, .agg #[.int .i64 (t203.length : Int), .slice Ao75 t207.length co75], .agg #[.int .i64 ji10, .int .u64 a2]] (by rfl) rfl rfl (by (try simp only [List.map_toArray, List.map_cons, List.map_nil]); first | done | (simp only [hji10]; rfl) | rfl | (simp only [List.length_drop, List.length_take]; rfl)) ?_
                                        with_reducible refine (plexuslaw03_check.calls k t206 (t203.length : Int) _ _ t207 ji10 a2 t215 _ ?side1 ?side2 A16.out).mono ?_
                                        (case side1 => repeat (first | exact (Kd.R_reads' HO209.out).2.2 | (with_reducible refine Kd.C_alloc ?_ _) | (with_reducible refine Kd.C_drewN ?_ _) | (with_reducible refine Kd.C_drew ?_)))
                                        (case side2 => exact (Kd.R_reads' HO209.out).2.1)
                                        rintro e w85 ⟨rfl, hb⟩
                                        have HS4_ := (hb.cell (World.block_lt_of_cell? _ _ (hHeld.2.2.2.2))).trans (hHeld.2.2.2.2)
                                        refine ⟨_, rfl, ?_⟩
                                        have n0_ := Aside0.mk (Kd.R_below (by (with_reducible repeat (first | apply Kd.R_alloc | apply Kd.R_drewN | apply Kd.R_drew)); exact HO205.out) hb)
                                        have n1_ := Aside0.mk (Kd.R_below (by (with_reducible repeat (first | apply Kd.R_alloc | apply Kd.R_drewN | apply Kd.R_drew)); exact HO209.out) hb)
                                        have n2_ := Aside0.mk (blk_below (g := gb201) (o := .cells #[.int .u16 a1_0, .int .u16 a1_1, .int .u16 a1_2] 76 (0, 0)) (by (with_reducible repeat (first | refine blk_drewN ?_ _ | refine blk_drew ?_ | refine blk_alloc ?_ _)); exact BK201.out) hb)
                                        have n3_ := Aside0.mk (blk_below (g := gb211) (o := .cells #[.slice Ao75 t207.length co75, .int .i64 t210] 80 (0, 0)) (by (with_reducible repeat (first | refine blk_drewN ?_ _ | refine blk_drew ?_ | refine blk_alloc ?_ _)); exact BK211.out) hb)
                                        have n4_ := Aside0.mk (blk_below (g := gb213) (o := .cells #[.int .i64 ji10, .int .u64 (rd t203 (ji10))] 83 (0, 0)) (by (with_reducible repeat (first | refine blk_drewN ?_ _ | refine blk_drew ?_ | refine blk_alloc ?_ _)); exact BK213.out) hb)
                                        have n5_ := Aside0.mk (below_step (by repeat (first | (with_reducible first | exact HB.out | apply below_alloc | apply pw_below_drewN | apply below_drew1 | refine below_set ?_ GE201.out | refine below_set ?_ GE211.out | refine below_set ?_ GE213.out) | exact HB.out)) hb)
                                        clear HO205
                                        clear HO209
                                        clear BK201
                                        clear BK211
                                        clear BK213
                                        clear HB
                                        have HO205 := n0_
                                        have HO209 := n1_
                                        have BK201 := n2_
                                        have BK211 := n3_
                                        have BK213 := n4_
                                        have HB := n5_
                                        clear n0_ n1_ n2_ n3_ n4_ n5_
                                        (try clear hb)
                                        (try clear hb2)
                                        (try clear hk)
                                        (try clear hi)
                                        refine hK.out _ _ ⟨(blk_cell BK211.out 0).trans rfl, (blk_cell BK211.out 1).trans rfl, (blk_cell BK213.out 0).trans rfl, (blk_cell BK213.out 1).trans rfl, HS4_⟩ (fun hHeld => ?_)
                                        clear hK K
                                        refine norm_ (a' := ?_) ?_ ?_
                                        rotate_left
                                        · show Act.put _ (some 67) _ = _
                                          simp only [Act.put, List.setIfInBounds_toArray, List.set_cons_zero, List.set_cons_succ, i64_w, i32_w]
                                          rfl
                                        refine pure_ (i := 25) (N := some 68) (v := ?_) (a' := ?_) #[true, true, true, true, true, true, true, true, true, true, true, true, true, true, true, true, true, true, true, true, true, true, true, true, true, true, true, true, true, true, true, true, false, false] rfl rfl (any_of HT_.out (by kernel_rfl)) (fun _ _ _ h => h) (Or.inl ⟨by rfl, ?_⟩) ?_ ?_
                                        rotate_left
                                        · intro w'
                                          go_simp
                                          with_reducible rfl
                                        rotate_left
                                        · simp only [Act.put, List.setIfInBounds_toArray, List.set_cons_zero, List.set_cons_succ, i64_w, i32_w]
                                          rfl
                                        refine pure_ (i := 32) (N := some 75) (v := ?_) (a' := ?_) #[true, true, true, true, true, true, true, true, true, true, true, true, true, true, true, true, true, true, true, true, true, true, true, true, true, true, true, true, true, true, true, true, true, false] rfl rfl (any_of HT_.out (by kernel_rfl)) (fun _ _ _ h => h) (Or.inl ⟨by rfl, ?_⟩) ?_ ?_
                                        rotate_left
                                        · intro w'
                                          go_simp
                                          with_reducible rfl
                                        rotate_left
                                        · simp only [Act.put, List.setIfInBounds_toArray, List.set_cons_zero, List.set_cons_succ, i64_w, i32_w]
                                          rfl
                                        refine pure_ (i := 33) (N := some 76) (v := ?_) (a' := ?_) #[true, true, true, true, true, true, true, true, true, true, true, true, true, true, true, true, true, true, true, true, true, true, true, true, true, true, true, true, true, true, true, true, true, true] rfl rfl (any_of HT_.out (by kernel_rfl)) (fun _ _ _ h => h) (Or.inl ⟨by rfl, ?_⟩) ?_ ?_
                                        rotate_left
                                        · intro w'
                                          go_simp
                                          with_reducible rfl
                                        rotate_left
                                        · simp only [Act.put, List.setIfInBounds_toArray, List.set_cons_zero, List.set_cons_succ, i64_w, i32_w]
                                          rfl
                                        refine done_ (done_of HT_.out (by kernel_rfl)) ?_
                                        try go_wp2_with (first | ((with_reducible refine gate_dst (N := 77) rfl ?_); (try (refine gate_guard (by rfl) ?_; dsimp only)); refine Kd.R_lit (Kd.int .u64) _ 72 ?hg (N := 77) ?hd (xs := ([] : List Int)) (inner := []) (ok := fun _ => True) (okp := fun _ => True) ?hr ?hp (fun _ hk => hk) trivial (Below.refl _ _) (Nat.le_refl _) (by simp) ?_; (case hd => rfl); (case hg => rfl); (case hr => first | (go_simp; done) | (go_simp; rfl)); (case hp => exact (Reps.none _ _)); intro v218 w86 ho87 hb hg_ hnew_; clear hg_ hnew_; (first | rw [← Ny217.out] at ho87 | (simp only [Int.reduceToNat] at ho87; rw [← Ny217.out] at ho87)); have n0_ := Aside0.mk (Kd.R_elder' (by (with_reducible repeat (first | apply Kd.R_alloc | apply Kd.R_drewN | apply Kd.R_drew)); exact HO205.out) (Kd.R_base ho87) hb); have n1_ := Aside0.mk (Kd.R_elder' (by (with_reducible repeat (first | apply Kd.R_alloc | apply Kd.R_drewN | apply Kd.R_drew)); exact HO209.out) (Kd.R_base ho87) hb); have n2_ := Aside0.mk (Kd.R_lower (Kd.R_new' (Kd.R_new' ho87 (Kd.R_lt (by (with_reducible repeat (first | apply Kd.R_alloc | apply Kd.R_drewN | apply Kd.R_drew)); exact HO205.out))) (Kd.R_lt (by (with_reducible repeat (first | apply Kd.R_alloc | apply Kd.R_drewN | apply Kd.R_drew)); exact HO209.out))) (below_size (by repeat (first | (with_reducible first | exact HB.out | apply below_alloc | apply pw_below_drewN | apply below_drew1 | refine below_set ?_ GE201.out | refine below_set ?_ GE211.out | refine below_set ?_ GE213.out) | exact HB.out)))); have n3_ := Aside0.mk (blk_below (g := gb201) (o := .cells #[.int .u16 a1_0, .int .u16 a1_1, .int .u16 a1_2] 76 (0, 0)) (by (with_reducible repeat (first | refine blk_drewN ?_ _ | refine blk_drew ?_ | refine blk_alloc ?_ _)); exact BK201.out) hb); have n4_ := Aside0.mk (blk_below (g := gb211) (o := .cells #[.slice Ao75 t207.length co75, .int .i64 t210] 80 (0, 0)) (by (with_reducible repeat (first | refine blk_drewN ?_ _ | refine blk_drew ?_ | refine blk_alloc ?_ _)); exact BK211.out) hb); have n5_ := Aside0.mk (blk_below (g := gb213) (o := .cells #[.int .i64 ji10, .int .u64 (rd t203 (ji10))] 83 (0, 0)) (by (with_reducible repeat (first | refine blk_drewN ?_ _ | refine blk_drew ?_ | refine blk_alloc ?_ _)); exact BK213.out) hb); have n6_ := Aside0.mk (below_step (by repeat (first | (with_reducible first | exact HB.out | apply below_alloc | apply pw_below_drewN | apply below_drew1 | refine below_set ?_ GE201.out | refine below_set ?_ GE211.out | refine below_set ?_ GE213.out) | exact HB.out)) hb); clear HO205; clear HO209; clear BK201; clear BK211; clear BK213; clear HB; have HO205 := n0_; have HO209 := n1_; have HO219 := n2_; have BK201 := n3_; have BK211 := n4_; have BK213 := n5_; have HB := n6_; clear n0_ n1_ n2_ n3_ n4_ n5_ n6_; clear hb ho87; have hcz88_0 : w86.cell? ⟨gb211, 0, none⟩ = some (.slice Ao75 t207.length co75) := (blk_cell BK211.out 0).trans rfl; have hcz88_1 : w86.cell? ⟨gb211, 1, none⟩ = some (.int .i64 t210) := (blk_cell BK211.out 1).trans rfl; have hfz88_0 := blk_frozen BK211.out 0; have hfz88_1 := blk_frozen BK211.out 1) | ((with_reducible refine gate_builtin (b := .append) (xs := #[.tmp 77, .tmp 79]) rfl ?_); (try (refine gate_guard (by rfl) ?_; dsimp only)); at_builtin; refine Kd.R_append_rows (Kd.int .u64) (w0 := w) w.heap.size rfl (.tmp 77) (.tmp 79) 75 72 (.int .u64 0) 8 rfl Try.underlying75 info72 rfl (by decide) (by omega) v218 y217 t207 _ _ _ (fun k_ => some k_ ≠ (.slice (some ad212) t203.length co71 : Value).ownBlock ∧ some k_ ≠ (.slice Ao75 t207.length co75 : Value).ownBlock) (fun _ => False) rfl rfl ?aO ?aR (fun _ _ h => h) (fun _ h => h.elim) ?aF ?aB ?aS ?aL ?_; (case aR => repeat (first | exact (Kd.R_reads' HO209.out).2.2 | (with_reducible refine Kd.C_alloc ?_ _) | (with_reducible refine Kd.C_drewN ?_ _) | (with_reducible refine Kd.C_drew ?_))); (case aB => exact (by repeat (first | (with_reducible first | exact HB.out | apply below_alloc | apply pw_below_drewN | apply below_drew1 | refine below_set ?_ GE201.out | refine below_set ?_ GE211.out | refine below_set ?_ GE213.out) | exact HB.out))); (case aF => exact (fun k_ hk => ⟨Kd.fresh' (Kd.R_lt (by (with_reducible repeat (first | apply Kd.R_alloc | apply Kd.R_drewN | apply Kd.R_drew)); exact HO205.out)) k_ hk, Kd.fresh' (Kd.R_lt (by (with_reducible repeat (first | apply Kd.R_alloc | apply Kd.R_drewN | apply Kd.R_drew)); exact HO209.out)) k_ hk⟩)); (case aO => exact (by (with_reducible repeat (first | apply Kd.R_alloc | apply Kd.R_drewN | apply Kd.R_drew)); exact Kd.R_mono HO219.out (fun _ hk => ⟨hk.1.2, hk.2⟩))); (case aS => exact (below_size (by repeat (first | (with_reducible first | exact HB.out | apply below_alloc | apply pw_below_drewN | apply below_drew1 | refine below_set ?_ GE201.out | refine below_set ?_ GE211.out | refine below_set ?_ GE213.out) | exact HB.out)))); (case aL => have := LMc18.out; omega); intro v221 w89 ho hb hg hat; rw [← Ny220.out] at ho; have n0_ := Aside0.mk (blk_grown (g := gb201) (o := .cells #[.int .u16 a1_0, .int .u16 a1_1, .int .u16 a1_2] 76 (0, 0)) (by (with_reducible repeat (first | refine blk_drewN ?_ _ | refine blk_drew ?_ | refine blk_alloc ?_ _)); exact BK201.out) hg (Kd.R_ne HO219.out BK201.out (by decide))); have n1_ := Aside0.mk (Kd.R_after (ok := (fun k_ => some k_ ≠ (.slice Ao75 t207.length co75 : Value).ownBlock)) (by (with_reducible repeat (first | apply Kd.R_alloc | apply Kd.R_drewN | apply Kd.R_drew)); exact HO205.out) hg hat); have n2_ := Aside0.mk (Kd.R_after (ok := (fun k_ => some k_ ≠ (.slice (some ad212) t203.length co71 : Value).ownBlock)) (by (with_reducible repeat (first | apply Kd.R_alloc | apply Kd.R_drewN | apply Kd.R_drew)); exact HO209.out) hg hat); have n3_ := Aside0.mk (blk_grown (g := gb211) (o := .cells #[.slice Ao75 t207.length co75, .int .i64 t210] 80 (0, 0)) (by (with_reducible repeat (first | refine blk_drewN ?_ _ | refine blk_drew ?_ | refine blk_alloc ?_ _)); exact BK211.out) hg (Kd.R_ne HO219.out BK211.out (by decide))); have n4_ := Aside0.mk (blk_grown (g := gb213) (o := .cells #[.int .i64 ji10, .int .u64 (rd t203 (ji10))] 83 (0, 0)) (by (with_reducible repeat (first | refine blk_drewN ?_ _ | refine blk_drew ?_ | refine blk_alloc ?_ _)); exact BK213.out) hg (Kd.R_ne HO219.out BK213.out (by decide))); have n5_ := Aside0.mk (hb); have n6_ := Aside0.mk (ho); clear BK201; clear HO205; clear HO209; clear BK211; clear BK213; clear HB; clear HO219; have BK201 := n0_; have HO205 := n1_; have HO209 := n2_; have BK211 := n3_; have BK213 := n4_; have HB := n5_; have HO222 := n6_; clear n0_ n1_ n2_ n3_ n4_ n5_ n6_; clear ho hb hg hat) | ((with_reducible refine gate_builtin (b := .append) (xs := #[.tmp 80, .tmp 82]) rfl ?_); (try (refine gate_guard (by rfl) ?_; dsimp only)); at_builtin; refine Kd.R_append (Kd.int .u64) (w0 := w) w.heap.size rfl (.tmp 80) (.tmp 82) 75 72 (.int .u64 0) 8 rfl Try.underlying75 info72 rfl (by decide) (by omega) v221 y220 a2 [.int .u64 a2] (fun k_ => some k_ ≠ (.slice (some ad212) t203.length co71 : Value).ownBlock ∧ some k_ ≠ (.slice Ao75 t207.length co75 : Value).ownBlock) (fun _ => False) rfl rfl ?aP (fun _ hk => hk.elim) ?aF ?aO ?aB ?aS ?aL ?_; (case aP => exact rfl); (case aB => exact (by repeat (first | (with_reducible first | exact HB.out | apply below_alloc | apply pw_below_drewN | apply below_drew1 | refine below_set ?_ GE201.out | refine below_set ?_ GE211.out | refine below_set ?_ GE213.out) | exact HB.out))); (case aF => exact (fun k_ hk => ⟨Kd.fresh' (Kd.R_lt (by (with_reducible repeat (first | apply Kd.R_alloc | apply Kd.R_drewN | apply Kd.R_drew)); exact HO205.out)) k_ hk, Kd.fresh' (Kd.R_lt (by (with_reducible repeat (first | apply Kd.R_alloc | apply Kd.R_drewN | apply Kd.R_drew)); exact HO209.out)) k_ hk⟩)); (case aO => exact (by (with_reducible repeat (first | apply Kd.R_alloc | apply Kd.R_drewN | apply Kd.R_drew)); exact HO222.out)); (case aS => exact (below_size (by repeat (first | (with_reducible first | exact HB.out | apply below_alloc | apply pw_below_drewN | apply below_drew1 | refine below_set ?_ GE201.out | refine below_set ?_ GE211.out | refine below_set ?_ GE213.out) | exact HB.out)))); (case aL => have := LMc19.out; omega); intro v224 w90 ho hb hg hat; rw [← Ny223.out] at ho; have n0_ := Aside0.mk (blk_grown (g := gb201) (o := .cells #[.int .u16 a1_0, .int .u16 a1_1, .int .u16 a1_2] 76 (0, 0)) (by (with_reducible repeat (first | refine blk_drewN ?_ _ | refine blk_drew ?_ | refine blk_alloc ?_ _)); exact BK201.out) hg (Kd.R_ne HO222.out BK201.out (by decide))); have n1_ := Aside0.mk (Kd.R_after (ok := (fun k_ => some k_ ≠ (.slice Ao75 t207.length co75 : Value).ownBlock)) (by (with_reducible repeat (first | apply Kd.R_alloc | apply Kd.R_drewN | apply Kd.R_drew)); exact HO205.out) hg hat); have n2_ := Aside0.mk (Kd.R_after (ok := (fun k_ => some k_ ≠ (.slice (some ad212) t203.length co71 : Value).ownBlock)) (by (with_reducible repeat (first | apply Kd.R_alloc | apply Kd.R_drewN | apply Kd.R_drew)); exact HO209.out) hg hat); have n3_ := Aside0.mk (blk_grown (g := gb211) (o := .cells #[.slice Ao75 t207.length co75, .int .i64 t210] 80 (0, 0)) (by (with_reducible repeat (first | refine blk_drewN ?_ _ | refine blk_drew ?_ | refine blk_alloc ?_ _)); exact BK211.out) hg (Kd.R_ne HO222.out BK211.out (by decide))); have n4_ := Aside0.mk (blk_grown (g := gb213) (o := .cells #[.int .i64 ji10, .int .u64 (rd t203 (ji10))] 83 (0, 0)) (by (with_reducible repeat (first | refine blk_drewN ?_ _ | refine blk_drew ?_ | refine blk_alloc ?_ _)); exact BK213.out) hg (Kd.R_ne HO222.out BK213.out (by decide))); have n5_ := Aside0.mk (hb); have n6_ := Aside0.mk (ho); clear BK201; clear HO205; clear HO209; clear BK211; clear BK213; clear HB; clear HO222; have BK201 := n0_; have HO205 := n1_; have HO209 := n2_; have BK211 := n3_; have BK213 := n4_; have HB := n5_; have HO225 := n6_; clear n0_ n1_ n2_ n3_ n4_ n5_ n6_; clear ho hb hg hat; obtain ⟨Ao91, co91, eo91⟩ := Kd.R_slice HO225.out; subst eo91; have hcz92_0 : w90.cell? ⟨gb213, 0, none⟩ = some (.int .i64 ji10) := (blk_cell BK213.out 0).trans rfl; have hcz92_1 : w90.cell? ⟨gb213, 1, none⟩ = some (.int .u64 (rd t203 (ji10))) := (blk_cell BK213.out 1).trans rfl; have hfz92_0 := blk_frozen BK213.out 0; have hfz92_1 := blk_frozen BK213.out 1) | ((with_reducible refine gate_callee (f := 61) rfl ?_); refine goesL_ (some 90) rfl rfl Try.func61 (by kernel_rfl) rfl #[.int .u64 t206, .agg #[.int .i64 (t203.length : Int), .slice Ao91 y223.length co91], .agg #[.int .i64 ji10, .int .u64 (rd t203 (ji10))]] rfl (by (try simp only [List.map_toArray, List.map_cons, List.map_nil]); first | done | (simp only [hji10]; rfl) | rfl | (simp only [List.length_drop, List.length_take]; rfl)) ?_; (with_reducible refine (plexuslaw03_check.calls k t206 (t203.length : Int) _ _ y223 ji10 (rd t203 (ji10)) t226 _ ?side1 ?side2 A20.out).mono ?_); (case side1 => repeat (first | exact (Kd.R_reads' HO225.out).2.2 | (with_reducible refine Kd.C_alloc ?_ _) | (with_reducible refine Kd.C_drewN ?_ _) | (with_reducible refine Kd.C_drew ?_))); (case side2 => exact (Kd.R_reads' HO225.out).2.1); rintro e w93 ⟨rfl, hb⟩; refine ⟨_, rfl, ?_⟩; have n0_ := Aside0.mk (Kd.R_below (by (with_reducible repeat (first | apply Kd.R_alloc | apply Kd.R_drewN | apply Kd.R_drew)); exact HO205.out) hb); have n1_ := Aside0.mk (Kd.R_below (by (with_reducible repeat (first | apply Kd.R_alloc | apply Kd.R_drewN | apply Kd.R_drew)); exact HO209.out) hb); have n2_ := Aside0.mk (Kd.R_below (by (with_reducible repeat (first | apply Kd.R_alloc | apply Kd.R_drewN | apply Kd.R_drew)); exact HO225.out) hb); have n3_ := Aside0.mk (blk_below (g := gb201) (o := .cells #[.int .u16 a1_0, .int .u16 a1_1, .int .u16 a1_2] 76 (0, 0)) (by (with_reducible repeat (first | refine blk_drewN ?_ _ | refine blk_drew ?_ | refine blk_alloc ?_ _)); exact BK201.out) hb); have n4_ := Aside0.mk (blk_below (g := gb211) (o := .cells #[.slice Ao75 t207.length co75, .int .i64 t210] 80 (0, 0)) (by (with_reducible repeat (first | refine blk_drewN ?_ _ | refine blk_drew ?_ | refine blk_alloc ?_ _)); exact BK211.out) hb); have n5_ := Aside0.mk (blk_below (g := gb213) (o := .cells #[.int .i64 ji10, .int .u64 (rd t203 (ji10))] 83 (0, 0)) (by (with_reducible repeat (first | refine blk_drewN ?_ _ | refine blk_drew ?_ | refine blk_alloc ?_ _)); exact BK213.out) hb); have n6_ := Aside0.mk (below_step (by repeat (first | (with_reducible first | exact HB.out | apply below_alloc | apply pw_below_drewN | apply below_drew1 | refine below_set ?_ GE201.out | refine below_set ?_ GE211.out | refine below_set ?_ GE213.out) | exact HB.out)) hb); clear HO205; clear HO209; clear HO225; clear BK201; clear BK211; clear BK213; clear HB; have HO205 := n0_; have HO209 := n1_; have HO225 := n2_; have BK201 := n3_; have BK211 := n4_; have BK213 := n5_; have HB := n6_; clear n0_ n1_ n2_ n3_ n4_ n5_ n6_; (try clear hb); (try clear hb2); (try clear hk); (try clear hi); have hcz94_0 : w93.cell? ⟨gb211, 0, none⟩ = some (.slice Ao75 t207.length co75) := (blk_cell BK211.out 0).trans rfl; have hcz94_1 : w93.cell? ⟨gb211, 1, none⟩ = some (.int .i64 t210) := (blk_cell BK211.out 1).trans rfl; have hfz94_0 := blk_frozen BK211.out 0; have hfz94_1 := blk_frozen BK211.out 1; have hcz95_0 : w93.cell? ⟨gb201, 0, none⟩ = some (.int .u16 a1_0) := (blk_cell BK201.out 0).trans rfl; have hcz95_1 : w93.cell? ⟨gb201, 1, none⟩ = some (.int .u16 a1_1) := (blk_cell BK201.out 1).trans rfl; have hcz95_2 : w93.cell? ⟨gb201, 2, none⟩ = some (.int .u16 a1_2) := (blk_cell BK201.out 2).trans rfl; have hfz95_0 := blk_frozen BK201.out 0; have hfz95_1 := blk_frozen BK201.out 1; have hfz95_2 := blk_frozen BK201.out 2) | ((with_reducible refine gate_dst (N := 109) rfl ?_); (try (refine gate_guard (by rfl) ?_; dsimp only)); refine Kd.R_lit (Kd.int .u64) _ 72 ?hg (N := 109) ?hd (xs := ([] : List Int)) (inner := []) (ok := fun _ => True) (okp := fun _ => True) ?hr ?hp (fun _ hk => hk) trivial (Below.refl _ _) (Nat.le_refl _) (by simp) ?_; (case hd => rfl); (case hg => rfl); (case hr => first | (go_simp; done) | (go_simp; rfl)); (case hp => exact (Reps.none _ _)); intro v228 w96 ho97 hb hg_ hnew_; clear hg_ hnew_; (first | rw [← Ny227.out] at ho97 | (simp only [Int.reduceToNat] at ho97; rw [← Ny227.out] at ho97)); have n0_ := Aside0.mk (Kd.R_elder' (by (with_reducible repeat (first | apply Kd.R_alloc | apply Kd.R_drewN | apply Kd.R_drew)); exact HO205.out) (Kd.R_base ho97) hb); have n1_ := Aside0.mk (Kd.R_elder' (by (with_reducible repeat (first | apply Kd.R_alloc | apply Kd.R_drewN | apply Kd.R_drew)); exact HO209.out) (Kd.R_base ho97) hb); have n2_ := Aside0.mk (Kd.R_elder' (by (with_reducible repeat (first | apply Kd.R_alloc | apply Kd.R_drewN | apply Kd.R_drew)); exact HO225.out) (Kd.R_base ho97) hb); have n3_ := Aside0.mk (Kd.R_lower (Kd.R_new' (Kd.R_new' (Kd.R_new' ho97 (Kd.R_lt (by (with_reducible repeat (first | apply Kd.R_alloc | apply Kd.R_drewN | apply Kd.R_drew)); exact HO205.out))) (Kd.R_lt (by (with_reducible repeat (first | apply Kd.R_alloc | apply Kd.R_drewN | apply Kd.R_drew)); exact HO209.out))) (Kd.R_lt (by (with_reducible repeat (first | apply Kd.R_alloc | apply Kd.R_drewN | apply Kd.R_drew)); exact HO225.out))) (below_size (by repeat (first | (with_reducible first | exact HB.out | apply below_alloc | apply pw_below_drewN | apply below_drew1 | refine below_set ?_ GE201.out | refine below_set ?_ GE211.out | refine below_set ?_ GE213.out) | exact HB.out)))); have n4_ := Aside0.mk (blk_below (g := gb201) (o := .cells #[.int .u16 a1_0, .int .u16 a1_1, .int .u16 a1_2] 76 (0, 0)) (by (with_reducible repeat (first | refine blk_drewN ?_ _ | refine blk_drew ?_ | refine blk_alloc ?_ _)); exact BK201.out) hb); have n5_ := Aside0.mk (blk_below (g := gb211) (o := .cells #[.slice Ao75 t207.length co75, .int .i64 t210] 80 (0, 0)) (by (with_reducible repeat (first | refine blk_drewN ?_ _ | refine blk_drew ?_ | refine blk_alloc ?_ _)); exact BK211.out) hb); have n6_ := Aside0.mk (blk_below (g := gb213) (o := .cells #[.int .i64 ji10, .int .u64 (rd t203 (ji10))] 83 (0, 0)) (by (with_reducible repeat (first | refine blk_drewN ?_ _ | refine blk_drew ?_ | refine blk_alloc ?_ _)); exact BK213.out) hb); have n7_ := Aside0.mk (below_step (by repeat (first | (with_reducible first | exact HB.out | apply below_alloc | apply pw_below_drewN | apply below_drew1 | refine below_set ?_ GE201.out | refine below_set ?_ GE211.out | refine below_set ?_ GE213.out) | exact HB.out)) hb); clear HO205; clear HO209; clear HO225; clear BK201; clear BK211; clear BK213; clear HB; have HO205 := n0_; have HO209 := n1_; have HO225 := n2_; have HO229 := n3_; have BK201 := n4_; have BK211 := n5_; have BK213 := n6_; have HB := n7_; clear n0_ n1_ n2_ n3_ n4_ n5_ n6_ n7_; clear hb ho97; have hcz98_0 : w96.cell? ⟨gb211, 0, none⟩ = some (.slice Ao75 t207.length co75) := (blk_cell BK211.out 0).trans rfl; have hcz98_1 : w96.cell? ⟨gb211, 1, none⟩ = some (.int .i64 t210) := (blk_cell BK211.out 1).trans rfl; have hfz98_0 := blk_frozen BK211.out 0; have hfz98_1 := blk_frozen BK211.out 1) | ((with_reducible refine gate_builtin (b := .append) (xs := #[.tmp 109, .tmp 111]) rfl ?_); (try (refine gate_guard (by rfl) ?_; dsimp only)); at_builtin; refine Kd.R_append_rows (Kd.int .u64) (w0 := w) w.heap.size rfl (.tmp 109) (.tmp 111) 75 72 (.int .u64 0) 8 rfl Try.underlying75 info72 rfl (by decide) (by omega) v228 y227 t207 _ _ _ (fun k_ => some k_ ≠ (.slice (some ad212) t203.length co71 : Value).ownBlock ∧ some k_ ≠ (.slice Ao75 t207.length co75 : Value).ownBlock ∧ some k_ ≠ (.slice Ao91 y223.length co91 : Value).ownBlock) (fun _ => False) rfl rfl ?aO ?aR (fun _ _ h => h) (fun _ h => h.elim) ?aF ?aB ?aS ?aL ?_; (case aR => repeat (first | exact (Kd.R_reads' HO209.out).2.2 | (with_reducible refine Kd.C_alloc ?_ _) | (with_reducible refine Kd.C_drewN ?_ _) | (with_reducible refine Kd.C_drew ?_))); (case aB => exact (by repeat (first | (with_reducible first | exact HB.out | apply below_alloc | apply pw_below_drewN | apply below_drew1 | refine below_set ?_ GE201.out | refine below_set ?_ GE211.out | refine below_set ?_ GE213.out) | exact HB.out))); (case aF => exact (fun k_ hk => ⟨Kd.fresh' (Kd.R_lt (by (with_reducible repeat (first | apply Kd.R_alloc | apply Kd.R_drewN | apply Kd.R_drew)); exact HO205.out)) k_ hk, Kd.fresh' (Kd.R_lt (by (with_reducible repeat (first | apply Kd.R_alloc | apply Kd.R_drewN | apply Kd.R_drew)); exact HO209.out)) k_ hk, Kd.fresh' (Kd.R_lt (by (with_reducible repeat (first | apply Kd.R_alloc | apply Kd.R_drewN | apply Kd.R_drew)); exact HO225.out)) k_ hk⟩)); (case aO => exact (by (with_reducible repeat (first | apply Kd.R_alloc | apply Kd.R_drewN | apply Kd.R_drew)); exact Kd.R_mono HO229.out (fun _ hk => ⟨hk.1.1.2, ⟨hk.1.2, hk.2⟩⟩))); (case aS => exact (below_size (by repeat (first | (with_reducible first | exact HB.out | apply below_alloc | apply pw_below_drewN | apply below_drew1 | refine below_set ?_ GE201.out | refine below_set ?_ GE211.out | refine below_set ?_ GE213.out) | exact HB.out)))); (case aL => have := LMc53.out; omega); intro v231 w99 ho hb hg hat; rw [← Ny230.out] at ho; have n0_ := Aside0.mk (blk_grown (g := gb201) (o := .cells #[.int .u16 a1_0, .int .u16 a1_1, .int .u16 a1_2] 76 (0, 0)) (by (with_reducible repeat (first | refine blk_drewN ?_ _ | refine blk_drew ?_ | refine blk_alloc ?_ _)); exact BK201.out) hg (Kd.R_ne HO229.out BK201.out (by decide))); have n1_ := Aside0.mk (Kd.R_after (ok := (fun k_ => some k_ ≠ (.slice Ao75 t207.length co75 : Value).ownBlock ∧ some k_ ≠ (.slice Ao91 y223.length co91 : Value).ownBlock)) (by (with_reducible repeat (first | apply Kd.R_alloc | apply Kd.R_drewN | apply Kd.R_drew)); exact HO205.out) hg hat); have n2_ := Aside0.mk (Kd.R_after (ok := (fun k_ => some k_ ≠ (.slice (some ad212) t203.length co71 : Value).ownBlock ∧ some k_ ≠ (.slice Ao91 y223.length co91 : Value).ownBlock)) (by (with_reducible repeat (first | apply Kd.R_alloc | apply Kd.R_drewN | apply Kd.R_drew)); exact HO209.out) hg hat); have n3_ := Aside0.mk (blk_grown (g := gb211) (o := .cells #[.slice Ao75 t207.length co75, .int .i64 t210] 80 (0, 0)) (by (with_reducible repeat (first | refine blk_drewN ?_ _ | refine blk_drew ?_ | refine blk_alloc ?_ _)); exact BK211.out) hg (Kd.R_ne HO229.out BK211.out (by decide))); have n4_ := Aside0.mk (blk_grown (g := gb213) (o := .cells #[.int .i64 ji10, .int .u64 (rd t203 (ji10))] 83 (0, 0)) (by (with_reducible repeat (first | refine blk_drewN ?_ _ | refine blk_drew ?_ | refine blk_alloc ?_ _)); exact BK213.out) hg (Kd.R_ne HO229.out BK213.out (by decide))); have n5_ := Aside0.mk (Kd.R_after (ok := (fun k_ => some k_ ≠ (.slice (some ad212) t203.length co71 : Value).ownBlock ∧ some k_ ≠ (.slice Ao75 t207.length co75 : Value).ownBlock)) (by (with_reducible repeat (first | apply Kd.R_alloc | apply Kd.R_drewN | apply Kd.R_drew)); exact HO225.out) hg hat); have n6_ := Aside0.mk (hb); have n7_ := Aside0.mk (ho); clear BK201; clear HO205; clear HO209; clear BK211; clear BK213; clear HO225; clear HB; clear HO229; have BK201 := n0_; have HO205 := n1_; have HO209 := n2_; have BK211 := n3_; have BK213 := n4_; have HO225 := n5_; have HB := n6_; have HO232 := n7_; clear n0_ n1_ n2_ n3_ n4_ n5_ n6_ n7_; clear ho hb hg hat; have p57 : 0 ≤ ((ji54) : Int) := of_decide_eq_true (by first | (with_reducible assumption) | assumption); have q57 : ((ji54) : Int) < ((y230.length : Int) : Int) := of_decide_eq_true (by first | (with_reducible assumption) | assumption); obtain ⟨go57, co57, eo57, gb57, gl57, cl57, HG57⟩ := Kd.R_form HO232.out (by omega); (first | cases eo57 | (injection eo57 with ea_ en_ ec_; (first | subst ea_ | (injection ea_ with ea_; subst ea_)); subst ec_; clear en_)); have GB57 := Aside0.mk gb57; have GG57 := Aside0.mk HG57; clear gb57 gl57 HG57; obtain ⟨hx57_0, hf57_0⟩ := Kd.R_celln 0 HO232.out ((ji54) : Int) p57 q57; replace p57 := eq_true p57; replace q57 := eq_true q57; obtain ⟨hy100_, hz100_⟩ := Kd.R_celln 0 HO232.out ((ji54) : Int) (of_decide_eq_true (by first | (with_reducible assumption) | assumption)) (of_decide_eq_true (by first | (with_reducible assumption) | assumption)); have HP100 := Kd.R_putg HO232.out ((ji54) : Int) a2) | ((with_reducible refine gate_store (t := 72) (p := 116) rfl ?_); refine store_event (t := 72) (p := 116) (v := ?vo_w101) (w1 := (w99.setCell ⟨go57, ((ji54) : Int).toNat, none⟩ (.int .u64 a2))) ?hg ?ho ?hn ?hr ?_; (case ho => rfl); (case hg => rfl); (case hn => rfl); (case hr => first | (go_simp; done) | (go_simp; rfl)); intro w101 hw; have hg : w99.grownBy w101 (some go57) := (by rw [hw]; exact HP100.2); have hp_ : Kd.R (Kd.int .u64) 72 w101 w.heap.size (fun k_ => some k_ ≠ (.slice (some ad212) t203.length co71 : Value).ownBlock ∧ some k_ ≠ (.slice Ao75 t207.length co75 : Value).ownBlock ∧ some k_ ≠ (.slice Ao91 y223.length co91 : Value).ownBlock) (.slice (some ⟨go57, 0, none⟩) y230.length co57) y233 := (by rw [hw, Ny233.out]; exact HP100.1); clear HP100; have n0_ := Aside0.mk (blk_grown (g := gb201) (o := .cells #[.int .u16 a1_0, .int .u16 a1_1, .int .u16 a1_2] 76 (0, 0)) (by (with_reducible repeat (first | refine blk_drewN ?_ _ | refine blk_drew ?_ | refine blk_alloc ?_ _)); exact BK201.out) hg (Kd.R_ne HO232.out BK201.out (by decide))); have n1_ := Aside0.mk (Kd.R_after (v := (.slice (some ⟨go57, 0, none⟩) y230.length co57)) (v1 := (.slice (some ⟨go57, 0, none⟩) y230.length co57)) (ok := (fun k_ => some k_ ≠ (.slice Ao75 t207.length co75 : Value).ownBlock ∧ some k_ ≠ (.slice Ao91 y223.length co91 : Value).ownBlock)) (by (with_reducible repeat (first | apply Kd.R_alloc | apply Kd.R_drewN | apply Kd.R_drew)); exact HO205.out) hg (.inl rfl)); have n2_ := Aside0.mk (Kd.R_after (v := (.slice (some ⟨go57, 0, none⟩) y230.length co57)) (v1 := (.slice (some ⟨go57, 0, none⟩) y230.length co57)) (ok := (fun k_ => some k_ ≠ (.slice (some ad212) t203.length co71 : Value).ownBlock ∧ some k_ ≠ (.slice Ao91 y223.length co91 : Value).ownBlock)) (by (with_reducible repeat (first | apply Kd.R_alloc | apply Kd.R_drewN | apply Kd.R_drew)); exact HO209.out) hg (.inl rfl)); have n3_ := Aside0.mk (blk_grown (g := gb211) (o := .cells #[.slice Ao75 t207.length co75, .int .i64 t210] 80 (0, 0)) (by (with_reducible repeat (first | refine blk_drewN ?_ _ | refine blk_drew ?_ | refine blk_alloc ?_ _)); exact BK211.out) hg (Kd.R_ne HO232.out BK211.out (by decide))); have n4_ := Aside0.mk (blk_grown (g := gb213) (o := .cells #[.int .i64 ji10, .int .u64 (rd t203 (ji10))] 83 (0, 0)) (by (with_reducible repeat (first | refine blk_drewN ?_ _ | refine blk_drew ?_ | refine blk_alloc ?_ _)); exact BK213.out) hg (Kd.R_ne HO232.out BK213.out (by decide))); have n5_ := Aside0.mk (Kd.R_after (v := (.slice (some ⟨go57, 0, none⟩) y230.length co57)) (v1 := (.slice (some ⟨go57, 0, none⟩) y230.length co57)) (ok := (fun k_ => some k_ ≠ (.slice (some ad212) t203.length co71 : Value).ownBlock ∧ some k_ ≠ (.slice Ao75 t207.length co75 : Value).ownBlock)) (by (with_reducible repeat (first | apply Kd.R_alloc | apply Kd.R_drewN | apply Kd.R_drew)); exact HO225.out) hg (.inl rfl)); have n6_ := Aside0.mk (hp_); have n7_ := Aside0.mk ((by rw [hw]; exact below_set (HB.out) GB57.out : Below w.heap.size w w101)); clear BK201; clear HO205; clear HO209; clear BK211; clear BK213; clear HO225; clear HO232; clear HB; have BK201 := n0_; have HO205 := n1_; have HO209 := n2_; have BK211 := n3_; have BK213 := n4_; have HO225 := n5_; have HO232 := n6_; have HB := n7_; clear n0_ n1_ n2_ n3_ n4_ n5_ n6_ n7_; clear hg hw hp_))
                                        have n0_ := Aside0.mk (Kd.R_drew HO205.out)
                                        have n1_ := Aside0.mk (Kd.R_drew HO209.out)
                                        have n2_ := Aside0.mk (Kd.R_drew HO225.out)
                                        have n3_ := Aside0.mk (Kd.R_drew HO232.out)
                                        have n4_ := Aside0.mk (blk_drew BK201.out)
                                        have n5_ := Aside0.mk (blk_drew BK211.out)
                                        have n6_ := Aside0.mk (blk_drew BK213.out)
                                        have n7_ := Aside0.mk (below_drew1 HB.out)
                                        clear HO205
                                        clear HO209
                                        clear HO225
                                        clear HO232
                                        clear BK201
                                        clear BK211
                                        clear BK213
                                        clear HB
                                        have HO205 := n0_
                                        have HO209 := n1_
                                        have HO225 := n2_
                                        have HO232 := n3_
                                        have BK201 := n4_
                                        have BK211 := n5_
                                        have BK213 := n6_
                                        have HB := n7_
                                        clear n0_ n1_ n2_ n3_ n4_ n5_ n6_ n7_
                                        have p235 : 0 ≤ ((ji54) : Int) := of_decide_eq_true (by first | (with_reducible assumption) | assumption)
                                        have q235 : (ji54) < (t207.length : Int) := of_decide_eq_true (by first | (with_reducible assumption) | assumption)
                                        obtain ⟨ad235, e235, hx235_0⟩ := Kd.at_int (Kd.R_reads' HO209.out).2.2 (ji54) p235 q235
                                        cases e235
                                        replace p235 := eq_true p235
                                        replace q235 := eq_true q235
                                        refine start_ (n := 36) (S := fun w' => w'.cell? ⟨gb213, 0, none⟩ = some (.int .i64 ji10) ∧ w'.cell? ⟨gb213, 1, none⟩ = some (.int .u64 (rd t203 (ji10))) ∧ w'.cell? ⟨gb211, 0, none⟩ = some (.slice (some ad235) t207.length co75) ∧ w'.cell? ⟨gb211, 1, none⟩ = some (.int .i64 t210) ∧ w'.cell? (ad235.add ((ji54)).toNat) = some (.int .u64 (rd t207 (ji54)))) (ds := []) #[false, false, false, false, false, false, false, false, false, false, false, false, false, false, false, false, false, false, false, false, false, false, false, false, false, false, false, false, false, false, false, false, false, false, false, false] (by kernel_rfl) rfl rfl ⟨(blk_cell BK213.out 0).trans rfl, (blk_cell BK213.out 1).trans rfl, (blk_cell BK211.out 0).trans rfl, (blk_cell BK211.out 1).trans rfl, hx235_0⟩ (fun hHeld => ?_); refine with_tabW plexuslaw03_SealOpens.tab18 plexuslaw03_SealOpens.bits18 (fun HT_ HW_ => ?_)
                                        generalize w101.drew = w102 at HO205 HO209 HO225 HO232 BK201 BK211 BK213 HB hx235_0 hHeld ⊢
                                        refine pure_ (i := 0) (N := some 117) (v := ?_) (a' := ?_) #[true, false, false, false, false, false, false, false, false, false, false, false, false, false, false, false, false, false, false, false, false, false, false, false, false, false, false, false, false, false, false, false, false, false, false, false] rfl rfl (any_of HT_.out (by kernel_rfl)) (fun _ _ _ h => h) (Or.inl ⟨by rfl, ?_⟩) ?_ ?_
                                        rotate_left
                                        · intro w'
                                          go_simp
                                          with_reducible rfl
                                        rotate_left
                                        · simp only [Act.put, List.setIfInBounds_toArray, List.set_cons_zero, List.set_cons_succ, i64_w, i32_w]
                                          rfl
                                        refine pure_ (i := 1) (N := some 118) (v := ?_) (a' := ?_) #[true, true, false, false, false, false, false, false, false, false, false, false, false, false, false, false, false, false, false, false, false, false, false, false, false, false, false, false, false, false, false, false, false, false, false, false] rfl rfl (any_of HT_.out (by kernel_rfl)) (fun _ _ _ h => h) (Or.inl ⟨by rfl, ?_⟩) ?_ ?_
                                        rotate_left
                                        · intro w'
                                          go_simp
                                          with_reducible rfl
                                        rotate_left
                                        · simp only [Act.put, List.setIfInBounds_toArray, List.set_cons_zero, List.set_cons_succ, i64_w, i32_w]
                                          rfl
                                        refine pure_ (i := 2) (N := some 119) (v := ?_) (a' := ?_) #[true, true, true, false, false, false, false, false, false, false, false, false, false, false, false, false, false, false, false, false, false, false, false, false, false, false, false, false, false, false, false, false, false, false, false, false] rfl rfl (any_of HT_.out (by kernel_rfl)) (fun _ _ _ h => h) (Or.inl ⟨by rfl, ?_⟩) ?_ ?_
                                        rotate_left
                                        · intro w'
                                          go_simp
                                          with_reducible rfl
                                        rotate_left
                                        · simp only [Act.put, List.setIfInBounds_toArray, List.set_cons_zero, List.set_cons_succ, i64_w, i32_w]
                                          rfl
                                        refine pure_ (i := 3) (N := some 120) (v := ?_) (a' := ?_) #[true, true, true, true, false, false, false, false, false, false, false, false, false, false, false, false, false, false, false, false, false, false, false, false, false, false, false, false, false, false, false, false, false, false, false, false] rfl rfl (any_of HT_.out (by kernel_rfl)) (fun _ _ _ h => h) (Or.inl ⟨by rfl, ?_⟩) ?_ ?_
                                        rotate_left
                                        · intro w'
                                          go_simp
                                          with_reducible rfl
                                        rotate_left
                                        · simp only [Act.put, List.setIfInBounds_toArray, List.set_cons_zero, List.set_cons_succ, i64_w, i32_w]
                                          rfl
                                        refine pure_ (i := 4) (N := some 121) (v := ?_) (a' := ?_) #[true, true, true, true, true, false, false, false, false, false, false, false, false, false, false, false, false, false, false, false, false, false, false, false, false, false, false, false, false, false, false, false, false, false, false, false] rfl rfl (any_of HT_.out (by kernel_rfl)) (fun _ _ _ h => h) (Or.inl ⟨by rfl, ?_⟩) ?_ ?_
                                        rotate_left
                                        · intro w'
                                          go_simp
                                          with_reducible rfl
                                        rotate_left
                                        · simp only [Act.put, List.setIfInBounds_toArray, List.set_cons_zero, List.set_cons_succ, i64_w, i32_w]
                                          rfl
                                        refine pure_ (i := 8) (N := some 125) (v := ?_) (a' := ?_) #[true, true, true, true, true, false, false, false, true, false, false, false, false, false, false, false, false, false, false, false, false, false, false, false, false, false, false, false, false, false, false, false, false, false, false, false] rfl rfl (any_of HT_.out (by kernel_rfl)) (fun _ _ _ h => h) (Or.inl ⟨by rfl, ?_⟩) ?_ ?_
                                        rotate_left
                                        · intro w'
                                          go_simp
                                          with_reducible rfl
                                        rotate_left
                                        · simp only [Act.put, List.setIfInBounds_toArray, List.set_cons_zero, List.set_cons_succ, i64_w, i32_w]
                                          rfl
                                        refine pure_ (i := 9) (N := some 126) (v := ?_) (a' := ?_) #[true, true, true, true, true, false, false, false, true, true, false, false, false, false, false, false, false, false, false, false, false, false, false, false, false, false, false, false, false, false, false, false, false, false, false, false] rfl rfl (any_of HT_.out (by kernel_rfl)) (fun _ _ _ h => h) (Or.inl ⟨by rfl, ?_⟩) ?_ ?_
                                        rotate_left
                                        · intro w'
                                          go_simp
                                          with_reducible rfl
                                        rotate_left
                                        · simp only [Act.put, List.setIfInBounds_toArray, List.set_cons_zero, List.set_cons_succ, i64_w, i32_w]
                                          rfl
                                        refine pure_ (i := 11) (N := some 128) (v := ?_) (a' := ?_) #[true, true, true, true, true, false, false, false, true, true, false, true, false, false, false, false, false, false, false, false, false, false, false, false, false, false, false, false, false, false, false, false, false, false, false, false] rfl rfl (any_of HT_.out (by kernel_rfl)) (fun _ _ _ h => h) (Or.inl ⟨by rfl, ?_⟩) ?_ ?_
                                        rotate_left
                                        · intro w'
                                          go_simp
                                          with_reducible rfl
                                        rotate_left
                                        · simp only [Act.put, List.setIfInBounds_toArray, List.set_cons_zero, List.set_cons_succ, i64_w, i32_w]
                                          rfl
                                        refine take_ (i := 5) (N := some 122) (v := ?_) (a' := ?_) #[true, true, true, true, true, true, false, false, true, true, false, true, false, false, false, false, false, false, false, false, false, false, false, false, false, false, false, false, false, false, false, false, false, false, false, false] rfl rfl (take_ofW HT_.out HW_.out (by kernel_rfl)) (fun _ _ _ h => h) (Or.inl ⟨by rfl, ?_⟩) hHeld ?_ ?_
                                        rotate_left
                                        · rintro w' ⟨s0, s1, s2, s3, s4⟩
                                          go_simp
                                          with_reducible rfl
                                        rotate_left
                                        · simp only [Act.put, List.setIfInBounds_toArray, List.set_cons_zero, List.set_cons_succ, i64_w, i32_w]
                                          rfl
                                        refine take_ (i := 10) (N := some 127) (v := ?_) (a' := ?_) #[true, true, true, true, true, true, false, false, true, true, true, true, false, false, false, false, false, false, false, false, false, false, false, false, false, false, false, false, false, false, false, false, false, false, false, false] rfl rfl (take_ofW HT_.out HW_.out (by kernel_rfl)) (fun _ _ _ h => h) (Or.inl ⟨by rfl, ?_⟩) hHeld ?_ ?_
                                        rotate_left
                                        · rintro w' ⟨s0, s1, s2, s3, s4⟩
                                          go_simp
                                          with_reducible rfl
                                        rotate_left
                                        · simp only [Act.put, List.setIfInBounds_toArray, List.set_cons_zero, List.set_cons_succ, i64_w, i32_w]
                                          rfl
                                        refine pure_ (i := 12) (N := some 129) (v := ?_) (a' := ?_) #[true, true, true, true, true, true, false, false, true, true, true, true, true, false, false, false, false, false, false, false, false, false, false, false, false, false, false, false, false, false, false, false, false, false, false, false] rfl rfl (any_of HT_.out (by kernel_rfl)) (fun _ _ _ h => h) (Or.inl ⟨by rfl, ?_⟩) ?_ ?_
                                        rotate_left
                                        · intro w'
                                          go_simp
                                          with_reducible rfl
                                        rotate_left
                                        · simp only [Act.put, List.setIfInBounds_toArray, List.set_cons_zero, List.set_cons_succ, i64_w, i32_w]
                                          rfl
                                        refine take_ (i := 13) (N := some 130) (v := ?_) (a' := ?_) #[true, true, true, true, true, true, false, false, true, true, true, true, true, true, false, false, false, false, false, false, false, false, false, false, false, false, false, false, false, false, false, false, false, false, false, false] rfl rfl (take_ofW HT_.out HW_.out (by kernel_rfl)) (fun _ _ _ h => h) (Or.inl ⟨by rfl, ?_⟩) hHeld ?_ ?_
                                        rotate_left
                                        · rintro w' ⟨s0, s1, s2, s3, s4⟩
                                          go_simp
                                          with_reducible rfl
                                        rotate_left
                                        · simp only [Act.put, List.setIfInBounds_toArray, List.set_cons_zero, List.set_cons_succ, i64_w, i32_w]
                                          rfl
                                        refine pure_ (i := 14) (N := some 131) (v := ?_) (a' := ?_) #[true, true, true, true, true, true, false, false, true, true, true, true, true, true, true, false, false, false, false, false, false, false, false, false, false, false, false, false, false, false, false, false, false, false, false, false] rfl rfl (any_of HT_.out (by kernel_rfl)) (fun _ _ _ h => h) (Or.inl ⟨by rfl, ?_⟩) ?_ ?_
                                        rotate_left
                                        · intro w'
                                          go_simp
                                          with_reducible rfl
                                        rotate_left
                                        · simp only [Act.put, List.setIfInBounds_toArray, List.set_cons_zero, List.set_cons_succ, i64_w, i32_w]
                                          rfl
                                        refine one_ (i := 6) (N := some 123) #[true, true, true, true, true, true, true, false, true, true, true, true, true, true, true, false, false, false, false, false, false, false, false, false, false, false, false, false, false, false, false, false, false, false, false, false] rfl rfl (one_of HT_.out (by kernel_rfl)) (by decide) (fun K hK => ?_)
                                        refine goes_ Try.func61 (by kernel_rfl) rfl #[.int .u64 t206, .agg #[.int .i64 (t203.length : Int), .slice (some ⟨go57, 0, none⟩) y233.length co57], .agg #[.int .i64 ji10, .int .u64 (rd t203 (ji10))]] (by rfl) rfl rfl (by (try simp only [List.map_toArray, List.map_cons, List.map_nil]); first | done | (rw [show y233.length = y230.length from (Kd.R_reads' HO232.out).1.symm] <;> rfl) | (simp only [hji10]; rfl) | rfl | (simp only [List.length_drop, List.length_take]; rfl)) ?_
                                        with_reducible refine (plexuslaw03_check.calls k t206 (t203.length : Int) _ _ y233 ji10 (rd t203 (ji10)) t234 _ ?side1 ?side2 A58.out).mono ?_
                                        (case side1 => repeat (first | exact (Kd.R_reads' HO232.out).2.2 | (with_reducible refine Kd.C_alloc ?_ _) | (with_reducible refine Kd.C_drewN ?_ _) | (with_reducible refine Kd.C_drew ?_)))
                                        (case side2 => rw [show y233.length = y230.length from (Kd.R_reads' HO232.out).1.symm]; exact (Kd.R_reads' HO232.out).2.1)
                                        rintro e w103 ⟨rfl, hb⟩
                                        have HS4_ := (hb.cell (World.block_lt_of_cell? _ _ (hHeld.2.2.2.2))).trans (hHeld.2.2.2.2)
                                        refine ⟨_, rfl, ?_⟩
                                        have n0_ := Aside0.mk (Kd.R_below (by (with_reducible repeat (first | apply Kd.R_alloc | apply Kd.R_drewN | apply Kd.R_drew)); exact HO205.out) hb)
                                        have n1_ := Aside0.mk (Kd.R_below (by (with_reducible repeat (first | apply Kd.R_alloc | apply Kd.R_drewN | apply Kd.R_drew)); exact HO209.out) hb)
                                        have n2_ := Aside0.mk (Kd.R_below (by (with_reducible repeat (first | apply Kd.R_alloc | apply Kd.R_drewN | apply Kd.R_drew)); exact HO225.out) hb)
                                        have n3_ := Aside0.mk (Kd.R_below (by (with_reducible repeat (first | apply Kd.R_alloc | apply Kd.R_drewN | apply Kd.R_drew)); exact HO232.out) hb)
                                        have n4_ := Aside0.mk (blk_below (g := gb201) (o := .cells #[.int .u16 a1_0, .int .u16 a1_1, .int .u16 a1_2] 76 (0, 0)) (by (with_reducible repeat (first | refine blk_drewN ?_ _ | refine blk_drew ?_ | refine blk_alloc ?_ _)); exact BK201.out) hb)
                                        have n5_ := Aside0.mk (blk_below (g := gb211) (o := .cells #[.slice (some ad235) t207.length co75, .int .i64 t210] 80 (0, 0)) (by (with_reducible repeat (first | refine blk_drewN ?_ _ | refine blk_drew ?_ | refine blk_alloc ?_ _)); exact BK211.out) hb)
                                        have n6_ := Aside0.mk (blk_below (g := gb213) (o := .cells #[.int .i64 ji10, .int .u64 (rd t203 (ji10))] 83 (0, 0)) (by (with_reducible repeat (first | refine blk_drewN ?_ _ | refine blk_drew ?_ | refine blk_alloc ?_ _)); exact BK213.out) hb)
                                        have n7_ := Aside0.mk (below_step (by repeat (first | (with_reducible first | exact HB.out | apply below_alloc | apply pw_below_drewN | apply below_drew1 | refine below_set ?_ GE201.out | refine below_set ?_ GE211.out | refine below_set ?_ GE213.out) | exact HB.out)) hb)
                                        clear HO205
                                        clear HO209
                                        clear HO225
                                        clear HO232
                                        clear BK201
                                        clear BK211
                                        clear BK213
                                        clear HB
                                        have HO205 := n0_
                                        have HO209 := n1_
                                        have HO225 := n2_
                                        have HO232 := n3_
                                        have BK201 := n4_
                                        have BK211 := n5_
                                        have BK213 := n6_
                                        have HB := n7_
                                        clear n0_ n1_ n2_ n3_ n4_ n5_ n6_ n7_
                                        (try clear hb)
                                        (try clear hb2)
                                        (try clear hk)
                                        (try clear hi)
                                        have q104 : ((ji61) : Int) ≤ ((t207.length : Int) : Int) := of_decide_eq_true (by first | (with_reducible assumption) | assumption)
                                        obtain ⟨i0104, hi0104, _, hsz104, _⟩ := info_parts info72
                                        have hroom104 : t207.length ≤ co75 := (Kd.R_reads' HO209.out).2.1
                                        have hC104 : Kd.C (Kd.int .u64) _ (some ad235) t207.length t207 := (Kd.R_reads' HO209.out).2.2
                                        have hcut104 := cut_to (P := Try.prog) 75 72 .i64 Try.underlying75 hi0104 (some ad235) t207.length co75 (ji61) (of_decide_eq_true (by first | (with_reducible assumption) | assumption)) q104 hroom104
                                        have hr104 := Kd.C_take (m := ((ji61) : Int).toNat) hC104 (by omega)
                                        have hy104 : y236.length = ((ji61) : Int).toNat := (by rw [Ny236.out, List.length_take]; omega)
                                        rw [← Ny236.out] at hr104
                                        rw [← hy104] at hcut104
                                        have HR239 := Aside0.mk hr104
                                        have HC239 := Aside0.mk (show y236.length ≤ co75 from by omega)
                                        clear hr104 hC104 hroom104 hi0104 hsz104
                                        have KY104 := Aside0.mk hy104
                                        clear hy104
                                        have KL104 := Aside0.mk (show ((ji61) : Int).toNat ≤ t207.length from by omega)
                                        replace q104 := eq_true q104
                                        refine hK.out _ _ ⟨(blk_cell BK213.out 0).trans rfl, (blk_cell BK213.out 1).trans rfl, (blk_cell BK211.out 0).trans rfl, (blk_cell BK211.out 1).trans rfl, HS4_⟩ (fun hHeld => ?_)
                                        clear hK K
                                        refine norm_ (a' := ?_) ?_ ?_
                                        rotate_left
                                        · show Act.put _ (some 123) _ = _
                                          simp only [Act.put, List.setIfInBounds_toArray, List.set_cons_zero, List.set_cons_succ, i64_w, i32_w]
                                          rfl
                                        refine pure_ (i := 7) (N := some 124) (v := ?_) (a' := ?_) #[true, true, true, true, true, true, true, true, true, true, true, true, true, true, true, false, false, false, false, false, false, false, false, false, false, false, false, false, false, false, false, false, false, false, false, false] rfl rfl (any_of HT_.out (by kernel_rfl)) (fun _ _ _ h => h) (Or.inl ⟨by rfl, ?_⟩) ?_ ?_
                                        rotate_left
                                        · intro w'
                                          go_simp
                                          with_reducible rfl
                                        rotate_left
                                        · simp only [Act.put, List.setIfInBounds_toArray, List.set_cons_zero, List.set_cons_succ, i64_w, i32_w]
                                          rfl
                                        refine pure_ (i := 15) (N := some 132) (v := ?_) (a' := ?_) #[true, true, true, true, true, true, true, true, true, true, true, true, true, true, true, true, false, false, false, false, false, false, false, false, false, false, false, false, false, false, false, false, false, false, false, false] rfl rfl (any_of HT_.out (by kernel_rfl)) (fun _ _ _ h => h) (Or.inl ⟨by rfl, ?_⟩) ?_ ?_
                                        rotate_left
                                        · intro w'
                                          go_simp
                                          with_reducible rfl
                                        rotate_left
                                        · simp only [Act.put, List.setIfInBounds_toArray, List.set_cons_zero, List.set_cons_succ, i64_w, i32_w]
                                          rfl
                                        refine pure_ (i := 16) (N := some 133) (v := ?_) (a' := ?_) #[true, true, true, true, true, true, true, true, true, true, true, true, true, true, true, true, true, false, false, false, false, false, false, false, false, false, false, false, false, false, false, false, false, false, false, false] rfl rfl (any_of HT_.out (by kernel_rfl)) (fun _ _ _ h => h) (Or.inl ⟨by rfl, ?_⟩) ?_ ?_
                                        rotate_left
                                        · intro w'
                                          go_simp
                                          with_reducible rfl
                                        rotate_left
                                        · simp only [Act.put, List.setIfInBounds_toArray, List.set_cons_zero, List.set_cons_succ, i64_w, i32_w]
                                          rfl
                                        refine pure_ (i := 17) (N := some 134) (v := ?_) (a' := ?_) #[true, true, true, true, true, true, true, true, true, true, true, true, true, true, true, true, true, true, false, false, false, false, false, false, false, false, false, false, false, false, false, false, false, false, false, false] rfl rfl (any_of HT_.out (by kernel_rfl)) (fun _ _ _ h => h) (Or.inl ⟨by rfl, ?_⟩) ?_ ?_
                                        rotate_left
                                        · intro w'
                                          go_simp
                                          with_reducible rfl
                                        rotate_left
                                        · simp only [Act.put, List.setIfInBounds_toArray, List.set_cons_zero, List.set_cons_succ, i64_w, i32_w]
                                          rfl
                                        refine pure_ (i := 18) (N := some 135) (v := ?_) (a' := ?_) #[true, true, true, true, true, true, true, true, true, true, true, true, true, true, true, true, true, true, true, false, false, false, false, false, false, false, false, false, false, false, false, false, false, false, false, false] rfl rfl (any_of HT_.out (by kernel_rfl)) (fun _ _ _ h => h) (Or.inl ⟨by rfl, ?_⟩) ?_ ?_
                                        rotate_left
                                        · intro w'
                                          go_simp
                                          with_reducible rfl
                                        rotate_left
                                        · simp only [Act.put, List.setIfInBounds_toArray, List.set_cons_zero, List.set_cons_succ, i64_w, i32_w]
                                          rfl
                                        refine pure_ (i := 19) (N := some 136) (v := ?_) (a' := ?_) #[true, true, true, true, true, true, true, true, true, true, true, true, true, true, true, true, true, true, true, true, false, false, false, false, false, false, false, false, false, false, false, false, false, false, false, false] rfl rfl (any_of HT_.out (by kernel_rfl)) (fun _ _ _ h => h) (Or.inl ⟨by rfl, ?_⟩) ?_ ?_
                                        rotate_left
                                        · intro w'
                                          go_simp
                                          with_reducible rfl
                                        rotate_left
                                        · simp only [Act.put, List.setIfInBounds_toArray, List.set_cons_zero, List.set_cons_succ, i64_w, i32_w]
                                          rfl
                                        refine pure_ (i := 20) (N := some 137) (v := ?_) (a' := ?_) #[true, true, true, true, true, true, true, true, true, true, true, true, true, true, true, true, true, true, true, true, true, false, false, false, false, false, false, false, false, false, false, false, false, false, false, false] rfl rfl (any_of HT_.out (by kernel_rfl)) (fun _ _ _ h => h) (Or.inl ⟨by rfl, ?_⟩) ?_ ?_
                                        rotate_left
                                        · intro w'
                                          go_simp
                                          with_reducible rfl
                                        rotate_left
                                        · simp only [Act.put, List.setIfInBounds_toArray, List.set_cons_zero, List.set_cons_succ, i64_w, i32_w]
                                          rfl
                                        refine pure_ (i := 22) (N := some 139) (v := ?_) (a' := ?_) #[true, true, true, true, true, true, true, true, true, true, true, true, true, true, true, true, true, true, true, true, true, false, true, false, false, false, false, false, false, false, false, false, false, false, false, false] rfl rfl (any_of HT_.out (by kernel_rfl)) (fun _ _ _ h => h) (Or.inl ⟨by rfl, ?_⟩) ?_ ?_
                                        rotate_left
                                        · intro w'
                                          go_simp
                                          with_reducible rfl
                                        rotate_left
                                        · simp only [Act.put, List.setIfInBounds_toArray, List.set_cons_zero, List.set_cons_succ, i64_w, i32_w]
                                          rfl
                                        refine take_ (i := 21) (N := some 138) (v := ?_) (a' := ?_) #[true, true, true, true, true, true, true, true, true, true, true, true, true, true, true, true, true, true, true, true, true, true, true, false, false, false, false, false, false, false, false, false, false, false, false, false] rfl rfl (take_ofW HT_.out HW_.out (by kernel_rfl)) (fun _ _ _ h => h) (Or.inl ⟨by rfl, ?_⟩) hHeld ?_ ?_
                                        rotate_left
                                        · rintro w' ⟨s0, s1, s2, s3, s4⟩
                                          go_simp
                                          with_reducible rfl
                                        rotate_left
                                        · simp only [Act.put, List.setIfInBounds_toArray, List.set_cons_zero, List.set_cons_succ, i64_w, i32_w]
                                          rfl
                                        refine take_ (i := 23) (N := some 140) (v := ?_) (a' := ?_) #[true, true, true, true, true, true, true, true, true, true, true, true, true, true, true, true, true, true, true, true, true, true, true, true, false, false, false, false, false, false, false, false, false, false, false, false] rfl rfl (take_ofW HT_.out HW_.out (by kernel_rfl)) (fun _ _ _ h => h) (Or.inl ⟨by rfl, ?_⟩) hHeld ?_ ?_
                                        rotate_left
                                        · rintro w' ⟨s0, s1, s2, s3, s4⟩
                                          go_simp
                                          with_reducible rfl
                                        rotate_left
                                        · simp only [Act.put, List.setIfInBounds_toArray, List.set_cons_zero, List.set_cons_succ, i64_w, i32_w]
                                          rfl
                                        refine pure_ (i := 24) (N := some 141) (v := ?_) (a' := ?_) #[true, true, true, true, true, true, true, true, true, true, true, true, true, true, true, true, true, true, true, true, true, true, true, true, true, false, false, false, false, false, false, false, false, false, false, false] rfl rfl (any_of HT_.out (by kernel_rfl)) (fun _ _ _ h => h) (Or.inl ⟨by rfl, ?_⟩) ?_ ?_
                                        rotate_left
                                        · intro w'
                                          go_simp
                                          with_reducible rfl
                                        rotate_left
                                        · simp only [Act.put, List.setIfInBounds_toArray, List.set_cons_zero, List.set_cons_succ, i64_w, i32_w]
                                          rfl
                                        refine pure_ (i := 25) (N := some 142) (v := ?_) (a' := ?_) #[true, true, true, true, true, true, true, true, true, true, true, true, true, true, true, true, true, true, true, true, true, true, true, true, true, true, false, false, false, false, false, false, false, false, false, false] rfl rfl (any_of HT_.out (by kernel_rfl)) (fun _ _ _ h => h) (Or.inl ⟨by rfl, ?_⟩) ?_ ?_
                                        rotate_left
                                        · intro w'
                                          go_simp
                                          with_reducible rfl
                                        rotate_left
                                        · simp only [Act.put, List.setIfInBounds_toArray, List.set_cons_zero, List.set_cons_succ, i64_w, i32_w]
                                          rfl
                                        refine pure_ (i := 26) (N := some 143) (v := ?_) (a' := ?_) #[true, true, true, true, true, true, true, true, true, true, true, true, true, true, true, true, true, true, true, true, true, true, true, true, true, true, true, false, false, false, false, false, false, false, false, false] rfl rfl (any_of HT_.out (by kernel_rfl)) (fun _ _ _ h => h) (Or.inl ⟨by rfl, ?_⟩) ?_ ?_
                                        rotate_left
                                        · intro w'
                                          go_simp
                                          with_reducible rfl
                                        rotate_left
                                        · simp only [Act.put, List.setIfInBounds_toArray, List.set_cons_zero, List.set_cons_succ, i64_w, i32_w]
                                          rfl
                                        refine pure_ (i := 27) (N := some 144) (v := ?_) (a' := ?_) #[true, true, true, true, true, true, true, true, true, true, true, true, true, true, true, true, true, true, true, true, true, true, true, true, true, true, true, true, false, false, false, false, false, false, false, false] rfl rfl (any_of HT_.out (by kernel_rfl)) (fun _ _ _ h => h) (Or.inl ⟨by rfl, ?_⟩) ?_ ?_
                                        rotate_left
                                        · intro w'
                                          go_simp
                                          with_reducible rfl
                                        rotate_left
                                        · simp only [Act.put, List.setIfInBounds_toArray, List.set_cons_zero, List.set_cons_succ, i64_w, i32_w]
                                          rfl
                                        refine take_ (i := 28) (N := some 145) (v := ?_) (a' := ?_) #[true, true, true, true, true, true, true, true, true, true, true, true, true, true, true, true, true, true, true, true, true, true, true, true, true, true, true, true, true, false, false, false, false, false, false, false] rfl rfl (take_ofW HT_.out HW_.out (by kernel_rfl)) (fun _ _ _ h => h) (Or.inl ⟨by rfl, ?_⟩) hHeld ?_ ?_
                                        rotate_left
                                        · rintro w' ⟨s0, s1, s2, s3, s4⟩
                                          go_simp
                                          with_reducible rfl
                                        rotate_left
                                        · simp only [Act.put, List.setIfInBounds_toArray, List.set_cons_zero, List.set_cons_succ, i64_w, i32_w]
                                          rfl
                                        refine one_ (i := 29) (N := some 146) #[true, true, true, true, true, true, true, true, true, true, true, true, true, true, true, true, true, true, true, true, true, true, true, true, true, true, true, true, true, true, false, false, false, false, false, false] rfl rfl (one_of HT_.out (by kernel_rfl)) (by decide) (fun K hK => ?_)
                                        refine goes_ Try.func61 (by kernel_rfl) rfl #[.int .u64 t206, .agg #[.int .i64 (t203.length : Int), .slice (some ad235) y236.length co75], .agg #[.int .i64 ji10, .int .u64 (rd t203 (ji10))]] (by rfl) rfl rfl (by (try simp only [List.map_toArray, List.map_cons, List.map_nil]); first | done | (simp only [hji10]; rfl) | rfl | (simp only [List.length_drop, List.length_take]; rfl)) ?_
                                        with_reducible refine (plexuslaw03_check.calls k t206 (t203.length : Int) _ _ y236 ji10 (rd t203 (ji10)) t240 _ ?side1 ?side2 A64.out).mono ?_
                                        (case side1 => repeat (first | exact (by repeat (first | (with_reducible exact HR239.out) | (with_reducible refine Kd.C_alloc ?_ _) | (with_reducible refine Kd.C_drewN ?_ _) | (with_reducible refine Kd.C_drew ?_) | exact HR239.out)) | (with_reducible refine Kd.C_alloc ?_ _) | (with_reducible refine Kd.C_drewN ?_ _) | (with_reducible refine Kd.C_drew ?_)))
                                        (case side2 => exact HC239.out)
                                        rintro e w105 ⟨rfl, hb⟩
                                        have HS4_ := (hb.cell (World.block_lt_of_cell? _ _ (hHeld.2.2.2.2))).trans (hHeld.2.2.2.2)
                                        refine ⟨_, rfl, ?_⟩
                                        have n0_ := Aside0.mk (Kd.R_below (by (with_reducible repeat (first | apply Kd.R_alloc | apply Kd.R_drewN | apply Kd.R_drew)); exact HO205.out) hb)
                                        have n1_ := Aside0.mk (Kd.R_below (by (with_reducible repeat (first | apply Kd.R_alloc | apply Kd.R_drewN | apply Kd.R_drew)); exact HO209.out) hb)
                                        have n2_ := Aside0.mk (Kd.R_below (by (with_reducible repeat (first | apply Kd.R_alloc | apply Kd.R_drewN | apply Kd.R_drew)); exact HO225.out) hb)
                                        have n3_ := Aside0.mk (Kd.R_below (by (with_reducible repeat (first | apply Kd.R_alloc | apply Kd.R_drewN | apply Kd.R_drew)); exact HO232.out) hb)
                                        have n4_ := Aside0.mk (blk_below (g := gb201) (o := .cells #[.int .u16 a1_0, .int .u16 a1_1, .int .u16 a1_2] 76 (0, 0)) (by (with_reducible repeat (first | refine blk_drewN ?_ _ | refine blk_drew ?_ | refine blk_alloc ?_ _)); exact BK201.out) hb)
                                        have n5_ := Aside0.mk (blk_below (g := gb211) (o := .cells #[.slice (some ad235) t207.length co75, .int .i64 t210] 80 (0, 0)) (by (with_reducible repeat (first | refine blk_drewN ?_ _ | refine blk_drew ?_ | refine blk_alloc ?_ _)); exact BK211.out) hb)
                                        have n6_ := Aside0.mk (blk_below (g := gb213) (o := .cells #[.int .i64 ji10, .int .u64 (rd t203 (ji10))] 83 (0, 0)) (by (with_reducible repeat (first | refine blk_drewN ?_ _ | refine blk_drew ?_ | refine blk_alloc ?_ _)); exact BK213.out) hb)
                                        have n7_ := Aside0.mk (Kd.C_below (by repeat (first | (with_reducible exact HR239.out) | (with_reducible refine Kd.C_alloc ?_ _) | (with_reducible refine Kd.C_drewN ?_ _) | (with_reducible refine Kd.C_drew ?_) | exact HR239.out)) hb)
                                        have n8_ := Aside0.mk (below_step (by repeat (first | (with_reducible first | exact HB.out | apply below_alloc | apply pw_below_drewN | apply below_drew1 | refine below_set ?_ GE201.out | refine below_set ?_ GE211.out | refine below_set ?_ GE213.out) | exact HB.out)) hb)
                                        clear HO205
                                        clear HO209
                                        clear HO225
                                        clear HO232
                                        clear BK201
                                        clear BK211
                                        clear BK213
                                        clear HR239
                                        clear HB
                                        have HO205 := n0_
                                        have HO209 := n1_
                                        have HO225 := n2_
                                        have HO232 := n3_
                                        have BK201 := n4_
                                        have BK211 := n5_
                                        have BK213 := n6_
                                        have HR239 := n7_
                                        have HB := n8_
                                        clear n0_ n1_ n2_ n3_ n4_ n5_ n6_ n7_ n8_
                                        (try clear hb)
                                        (try clear hb2)
                                        (try clear hk)
                                        (try clear hi)
                                        refine hK.out _ _ ⟨(blk_cell BK213.out 0).trans rfl, (blk_cell BK213.out 1).trans rfl, (blk_cell BK211.out 0).trans rfl, (blk_cell BK211.out 1).trans rfl, HS4_⟩ (fun hHeld => ?_)
                                        clear hK K
                                        refine norm_ (a' := ?_) ?_ ?_
                                        rotate_left
                                        · show Act.put _ (some 146) _ = _
                                          simp only [Act.put, List.setIfInBounds_toArray, List.set_cons_zero, List.set_cons_succ, i64_w, i32_w]
                                          rfl
                                        refine pure_ (i := 30) (N := some 147) (v := ?_) (a' := ?_) #[true, true, true, true, true, true, true, true, true, true, true, true, true, true, true, true, true, true, true, true, true, true, true, true, true, true, true, true, true, true, true, false, false, false, false, false] rfl rfl (any_of HT_.out (by kernel_rfl)) (fun _ _ _ h => h) (Or.inl ⟨by rfl, ?_⟩) ?_ ?_
                                        rotate_left
                                        · intro w'
                                          go_simp
                                          with_reducible rfl
                                        rotate_left
                                        · simp only [Act.put, List.setIfInBounds_toArray, List.set_cons_zero, List.set_cons_succ, i64_w, i32_w]
                                          rfl
                                        refine pure_ (i := 31) (N := some 148) (v := ?_) (a' := ?_) #[true, true, true, true, true, true, true, true, true, true, true, true, true, true, true, true, true, true, true, true, true, true, true, true, true, true, true, true, true, true, true, true, false, false, false, false] rfl rfl (any_of HT_.out (by kernel_rfl)) (fun _ _ _ h => h) (Or.inl ⟨by rfl, ?_⟩) ?_ ?_
                                        rotate_left
                                        · intro w'
                                          go_simp
                                          with_reducible rfl
                                        rotate_left
                                        · simp only [Act.put, List.setIfInBounds_toArray, List.set_cons_zero, List.set_cons_succ, i64_w, i32_w]
                                          rfl
                                        refine pure_ (i := 32) (N := some 149) (v := ?_) (a' := ?_) #[true, true, true, true, true, true, true, true, true, true, true, true, true, true, true, true, true, true, true, true, true, true, true, true, true, true, true, true, true, true, true, true, true, false, false, false] rfl rfl (any_of HT_.out (by kernel_rfl)) (fun _ _ _ h => h) (Or.inl ⟨by rfl, ?_⟩) ?_ ?_
                                        rotate_left
                                        · intro w'
                                          go_simp
                                          with_reducible rfl
                                        rotate_left
                                        · simp only [Act.put, List.setIfInBounds_toArray, List.set_cons_zero, List.set_cons_succ, i64_w, i32_w]
                                          rfl
                                        refine pure_ (i := 33) (N := some 150) (v := ?_) (a' := ?_) #[true, true, true, true, true, true, true, true, true, true, true, true, true, true, true, true, true, true, true, true, true, true, true, true, true, true, true, true, true, true, true, true, true, true, false, false] rfl rfl (any_of HT_.out (by kernel_rfl)) (fun _ _ _ h => h) (Or.inl ⟨by rfl, ?_⟩) ?_ ?_
                                        rotate_left
                                        · intro w'
                                          go_simp
                                          with_reducible rfl
                                        rotate_left
                                        · simp only [Act.put, List.setIfInBounds_toArray, List.set_cons_zero, List.set_cons_succ, i64_w, i32_w]
                                          rfl
                                        refine pure_ (i := 34) (N := some 151) (v := ?_) (a' := ?_) #[true, true, true, true, true, true, true, true, true, true, true, true, true, true, true, true, true, true, true, true, true, true, true, true, true, true, true, true, true, true, true, true, true, true, true, false] rfl rfl (any_of HT_.out (by kernel_rfl)) (fun _ _ _ h => h) (Or.inl ⟨by rfl, ?_⟩) ?_ ?_
                                        rotate_left
                                        · intro w'
                                          go_simp
                                          with_reducible rfl
                                        rotate_left
                                        · simp only [Act.put, List.setIfInBounds_toArray, List.set_cons_zero, List.set_cons_succ, i64_w, i32_w]
                                          rfl
                                        refine pure_ (i := 35) (N := some 6) (v := ?_) (a' := ?_) #[true, true, true, true, true, true, true, true, true, true, true, true, true, true, true, true, true, true, true, true, true, true, true, true, true, true, true, true, true, true, true, true, true, true, true, true] rfl rfl (any_of HT_.out (by kernel_rfl)) (fun _ _ _ h => h) (Or.inl ⟨by rfl, ?_⟩) ?_ ?_
                                        rotate_left
                                        · intro w'
                                          go_simp
                                          with_reducible rfl
                                        rotate_left
                                        · simp only [Act.put, List.setIfInBounds_toArray, List.set_cons_zero, List.set_cons_succ, i64_w, i32_w]
                                          rfl
                                        refine done_ (done_of HT_.out (by kernel_rfl)) ?_
                                        try go_wp2
                                        go_ret
                                        exact ⟨by first | rfl | (simp [errW_none, errW_some] <;> rfl) | (simp only [← hji10, ← hji54, ← hji61]; first | rfl | (simp [errW_none, errW_some] <;> rfl)) | (simp [*, errW_none, errW_some] <;> rfl), by repeat (first | (with_reducible first | exact HB.out | apply below_alloc | apply pw_below_drewN | apply below_drew1 | refine below_set ?_ GE201.out | refine below_set ?_ GE211.out | refine below_set ?_ GE213.out) | exact HB.out)⟩
                                      · rw [if_neg c65] at H
                                        have c65b0 : (t240 == 6) = false := beq_eq_false_iff_ne.mpr c65
                                        have c65b1 : (t240 != 6) = true := bne_iff_ne.mpr c65
                                        exact absurd H (by simp)
                                    · rw [if_neg c63] at H
                                      exact absurd H (by simp)
                                  · rw [if_neg c62] at H
                                    exact absurd H (by simp)
                                · rw [if_neg c60] at H
                                  have c60b0 : ((t234 == 0) == (a2 == (rd t207 (ji54)))) = false := by simpa using c60
                                  (try (have c60b1 : decide ((t234 == 0) = (a2 == (rd t207 (ji54)))) = false := by simpa using c60))
                                  (try (have c60b2 : ((t234 == 0) == (a2 == (rd t207 (ji54)))) = false := by simpa using c60))
                                  (try (have c60b3 : ¬ ((t234 == 0) = (a2 == (rd t207 (ji54)))) := by simpa using c60))
                                  clear c60
                                  exact absurd H (by simp)
                              · rw [if_neg c59] at H
                                exact absurd H (by simp)
                            · rw [if_neg c56] at H
                              exact absurd H (by simp)
                          · rw [if_neg c55] at H
                            exact absurd H (by simp)
                        · rw [if_neg c53] at H
                          exact absurd H (by simp)
                    · rw [if_neg c21] at H
                      exact absurd H (by simp)
                  · rw [if_neg c19] at H
                    exact absurd H (by simp)
                · rw [if_neg c18] at H
                  exact absurd H (by simp)
            · rw [if_neg c15] at H
              exact absurd H (by simp)
          · rw [if_neg c13] at H
            exact absurd H (by simp)
        · rw [if_neg c12] at H
          exact absurd H (by simp)
      · rw [if_neg c11] at H
        exact absurd H (by simp)
  · replace c5 := Bool.eq_false_iff.mpr c5
    subst c5
    have H1 : (none) = some r := by rw [if_neg (show ¬ (false = true) by decide)] at H; exact H
    clear H
    have H := H1
    clear H1
    exact absurd H (by simp)

/-- THE ONE PURE STATEMENT of plexuslaw03_SealOpens. -/
def plexuslaw03_SealOpens.Pure : Prop := ∀ (l0 : List Int) (x1 : S76) (a2 : Int), (l0.length * 8 ≤ 140737488351232 ∧ l0.length ≤ maxLen ∧ ∀ x_ ∈ l0, (Lit.int .u64 x_).wf = true) → W76 x1 → (Lit.int .u64 a2).wf = true → ∃ k, plexuslaw03_SealOpens.f k l0 x1.f0 x1.f1 x1.f2 a2 = some true
theorem plexuslaw03_SealOpens.walk (P : plexuslaw03_SealOpens.Pure) (w : World) (A0 : Option Addr) (c0 : Nat) (l0 : List Int) (hr0 : Kd.C (Kd.int .u64) w A0 l0.length l0) (hc0 : l0.length ≤ c0) (w0 : (l0.length * 8 ≤ 140737488351232 ∧ l0.length ≤ maxLen ∧ ∀ x_ ∈ l0, (Lit.int .u64 x_).wf = true)) (x1 : S76) (cs1 : List Value) (hk1 : k76.K w x1 cs1) (w1 : W76 x1) (a2 : Int) (w2 : (Lit.int .u64 a2).wf = true) :
    Calls Try.prog 17 #[.slice A0 l0.length c0, .agg cs1.toArray, .int .u64 a2] w fun e w' => e = .returned (.bool true) ∧ Below w.heap.size w w' := by
  obtain ⟨k, h⟩ := P l0 x1 a2 w0 w1 w2
  obtain rfl := k76_open hk1
  refine (plexuslaw03_SealOpens.calls k A0 c0 l0 x1.f0 x1.f1 x1.f2 a2 true w hr0 hc0 h).mono ?_
  rintro e w' ⟨rfl, hd⟩
  exact ⟨rfl, hd⟩

end Go.Proofs.Ytcanekmlabehgaa.P03
