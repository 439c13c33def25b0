-- PRINTED by print.py (a twelfth state) out of the translation. Not trusted: Lean checks it.
import Derived.Test.YtcanekmlabehgaaP46x0
import Derived.Test.YtcanekmlabehgaaP46x2
import Derived.Test.YtcanekmlabehgaaP46x3
import Derived.Test.YtcanekmlabehgaaP46y4
import Derived.Test.YtcanekmlabehgaaP46x5
namespace Go.Proofs.Ytcanekmlabehgaa.P46
open Go.RowKit Go.Proofs.YtcanekmlabehgaaW.PrintWords Go.Proofs.YtcanekmlabehgaaW.PrintLast Go.Proofs.YtcanekmlabehgaaW.PrintMore
attribute [local go_sem] max2_int min2_int max_two min_two max_three min_three max_four min_four   -- for this text's walks alone
set_option linter.unusedVariables false
set_option linter.unusedSimpArgs false

/-! ### plexuslaw46_JournalForm: function 8 -/
def plexuslaw46_JournalForm.j0 : Nat → List Int → List (List Int) → List (List Int) → Bool → Bool → Option (Bool)
  | 0, _, _, _, _, _ => none
  | k + 1, x0, x1, x2, x7, x32 => if x32 = true then (some x7) else ((journal_Whole.f k x0).bind fun t513 => ((plexuslaw46_read.f k t513).bind fun bt516 => ((plexuslaw46_made.f k bt516.1).bind fun bt524 => ((plexuslaw46_read.f k x0).bind fun bt530 => (if bt516.2.2 = 0 then ((plexusref46_Same.f bt524.1 t513).bind fun t538 => (if t538 = true then ((plexusref46_Records.f k bt530.1 bt516.1).bind fun t539 => (if t539 = true then (if (wrap64 ((t513.length : Int) + (bt530.2.1.length : Int))) = (x0.length : Int) then (if ((bt530.2.2 == 0) != ((bt530.2.1.length : Int) == 0)) = true then (none) else ((plexuslaw46_made.f k x1).bind fun bt540 => ((plexuslaw46_made.f k x2).bind fun bt546 => ((plexusref46_Same.f bt540.1 bt546.1).bind fun t552 => ((plexusref46_Records.f k x1 x2).bind fun t553 => (if (t552 == t553) = true then (some x7) else (none))))))) else (none)) else (none))) else (none))) else (none))))))
def plexuslaw46_JournalForm.f (k : Nat) (l0 : List Int) (l1 : List (List Int)) (l2 : List (List Int)) : Option (Bool) := (plexuslaw46_examples.f k).bind fun t510 => (if t510 = true then (if (l0.length : Int) > 2000 then (plexuslaw46_JournalForm.j0 k l0 l1 l2 t510 true) else ((plexusref46_Small.f k l1).bind fun t511 => (if t511 = true then ((plexusref46_Small.f k l2).bind fun t512 => (plexuslaw46_JournalForm.j0 k l0 l1 l2 t510 (!t512))) else (plexuslaw46_JournalForm.j0 k l0 l1 l2 t510 true)))) else (none))
theorem plexuslaw46_JournalForm.mono_l : ∀ k, (∀ y0 y1 y2 y3 y4, LeO (plexuslaw46_JournalForm.j0 k y0 y1 y2 y3 y4) (plexuslaw46_JournalForm.j0 (k + 1) y0 y1 y2 y3 y4))
  | 0 => fun _ _ _ _ _ r h => by simp [plexuslaw46_JournalForm.j0] at h
  | k + 1 => by
    have ih0 := plexuslaw46_JournalForm.mono_l k
    · intro y0 y1 y2 y3 y4
      unfold plexuslaw46_JournalForm.j0
      repeat' first
      | (with_reducible exact ih0 _ _ _ _ _)
      | (with_reducible exact journal_Whole.mono _ _)
      | (with_reducible exact plexuslaw46_examples.mono _)
      | (with_reducible exact plexuslaw46_made.mono _ _)
      | (with_reducible exact plexuslaw46_read.mono _ _)
      | (with_reducible exact plexusref46_Records.mono _ _ _)
      | (with_reducible exact plexusref46_Small.mono _ _)
      | (with_reducible exact LeO.refl _)
      | (with_reducible exact LeO.none _)
      | (with_reducible refine LeO.ite ?_ ?_)
      | (with_reducible refine LeO.bind ?_ (fun _ => ?_))
      | exact ih0 _ _ _ _ _
      | exact journal_Whole.mono _ _
      | exact plexuslaw46_examples.mono _
      | exact plexuslaw46_made.mono _ _
      | exact plexuslaw46_read.mono _ _
      | exact plexusref46_Records.mono _ _ _
      | exact plexusref46_Small.mono _ _
      | exact LeO.none _
      | refine LeO.ite ?_ ?_
      | refine LeO.bind ?_ (fun _ => ?_)
theorem plexuslaw46_JournalForm.mono : ∀ a0 a1 a2 k, LeO (plexuslaw46_JournalForm.f k a0 a1 a2) (plexuslaw46_JournalForm.f (k + 1) a0 a1 a2) := by
  intro a0 a1 a2 k
  have ih0 := plexuslaw46_JournalForm.mono_l k
  unfold plexuslaw46_JournalForm.f
  repeat' first
      | (with_reducible exact ih0 _ _ _ _ _)
      | (with_reducible exact journal_Whole.mono _ _)
      | (with_reducible exact plexuslaw46_examples.mono _)
      | (with_reducible exact plexuslaw46_made.mono _ _)
      | (with_reducible exact plexuslaw46_read.mono _ _)
      | (with_reducible exact plexusref46_Records.mono _ _ _)
      | (with_reducible exact plexusref46_Small.mono _ _)
      | (with_reducible exact LeO.refl _)
      | (with_reducible exact LeO.none _)
      | (with_reducible refine LeO.ite ?_ ?_)
      | (with_reducible refine LeO.bind ?_ (fun _ => ?_))
      | exact ih0 _ _ _ _ _
      | exact journal_Whole.mono _ _
      | exact plexuslaw46_examples.mono _
      | exact plexuslaw46_made.mono _ _
      | exact plexuslaw46_read.mono _ _
      | exact plexusref46_Records.mono _ _ _
      | exact plexusref46_Small.mono _ _
      | exact LeO.none _
      | refine LeO.ite ?_ ?_
      | refine LeO.bind ?_ (fun _ => ?_)
set_option maxHeartbeats 8000000 in
set_option maxRecDepth 100000 in
theorem plexuslaw46_JournalForm.calls (k : Nat) (A0 : Option Addr) (c0 : Nat) (l0 : List Int) (A1 : Option Addr) (c1 : Nat) (l1 : List (List Int)) (A2 : Option Addr) (c2 : Nat) (l2 : List (List Int)) (r : Bool) (w : World) (hr0 : Kd.C (Kd.int .u8) w A0 l0.length l0) (hc0 : l0.length ≤ c0) (hr1 : Kd.C (Kd.slice 3 (Kd.int .i64)) w A1 l1.length l1) (hc1 : l1.length ≤ c1) (hr2 : Kd.C (Kd.slice 3 (Kd.int .i64)) w A2 l2.length l2) (hc2 : l2.length ≤ c2) (h : plexuslaw46_JournalForm.f k l0 l1 l2 = some r) :
    Calls Try.prog 8 #[.slice A0 l0.length c0, .slice A1 l1.length c1, .slice A2 l2.length c2] w fun e w' => e = .returned (.bool r) ∧ Below w.heap.size w w' := by
  have hu35 := Try.underlying35
  have HR0 := Aside0.mk hr0
  have HC0 := Aside0.mk hc0
  clear hr0 hc0
  have HR1 := Aside0.mk hr1
  have HC1 := Aside0.mk hc1
  clear hr1 hc1
  have HR2 := Aside0.mk hr2
  have HC2 := Aside0.mk hc2
  clear hr2 hc2
  have HB := Aside0.mk (Below.refl w.heap.size w)
  have H : ((plexuslaw46_examples.f k).bind fun t510 => (if t510 = true then (if (l0.length : Int) > 2000 then (plexuslaw46_JournalForm.j0 k l0 l1 l2 t510 true) else ((plexusref46_Small.f k l1).bind fun t511 => (if t511 = true then ((plexusref46_Small.f k l2).bind fun t512 => (plexuslaw46_JournalForm.j0 k l0 l1 l2 t510 (!t512))) else (plexuslaw46_JournalForm.j0 k l0 l1 l2 t510 true)))) else (none))) = some r := h
  clear h
  replace H := Option.bind_eq_some_iff.mp H
  obtain ⟨t510, A40, H⟩ := H
  replace H : (if t510 = true then (if (l0.length : Int) > 2000 then (plexuslaw46_JournalForm.j0 k l0 l1 l2 t510 true) else ((plexusref46_Small.f k l1).bind fun t511 => (if t511 = true then ((plexusref46_Small.f k l2).bind fun t512 => (plexuslaw46_JournalForm.j0 k l0 l1 l2 t510 (!t512))) else (plexuslaw46_JournalForm.j0 k l0 l1 l2 t510 true)))) else (none)) = some r := H
  have A4 := Aside0.mk A40
  clear A40
  by_cases c5 : t510 = true
  · subst c5
    have H1 : (if (l0.length : Int) > 2000 then (plexuslaw46_JournalForm.j0 k l0 l1 l2 true true) else ((plexusref46_Small.f k l1).bind fun t511 => (if t511 = true then ((plexusref46_Small.f k l2).bind fun t512 => (plexuslaw46_JournalForm.j0 k l0 l1 l2 true (!t512))) else (plexuslaw46_JournalForm.j0 k l0 l1 l2 true true)))) = some r := by rw [if_pos rfl] at H; exact H
    clear H
    have H := H1
    clear H1
    have HC6 := Aside0.mk H
    clear H
    go_enter Try.func8, Try.ntmps8
    go_upto_region 4 with (first | ((with_reducible refine gate_callee (f := 22) rfl ?_); refine goesL_ (some 17) rfl rfl Try.func22 (by kernel_rfl) rfl #[] rfl (by (try simp only [List.map_toArray, List.map_cons, List.map_nil]); first | done | rfl | (simp only [List.length_drop, List.length_take]; rfl)) ?_; (with_reducible refine (plexuslaw46_examples.calls k  true _ A4.out).mono ?_); rintro e w7 ⟨rfl, hb⟩; refine ⟨_, rfl, ?_⟩; have n0_ := Aside0.mk (below_step (by repeat (first | (with_reducible first | exact HB.out | apply below_alloc | apply pw_below_drewN | apply below_drew1) | exact HB.out)) hb); clear HB; have HB := n0_; clear n0_; (try clear hb); (try clear hb2); (try clear hk); (try clear hi)))
    (try simp only [Act.put, List.setIfInBounds_toArray, List.set_cons_zero, List.set_cons_succ])
    go_cut [32] (fun v32 wc => ∃ (kq : Nat) (x32_5 : Bool), v32 = .bool x32_5 ∧ Aside0 (plexuslaw46_JournalForm.j0 kq l0 l1 l2 true x32_5 = some r) ∧ Aside0 (kq ≤ k) ∧ Aside0 (Below w.heap.size w wc))
    case first =>
      have H := HC6.out
      clear HC6
      by_cases c8 : (l0.length : Int) > 2000
      · rw [if_pos c8] at H
        have c8b0 : decide (2000 < (l0.length : Int)) = true := decide_eq_true c8
        have c8b1 : decide (2000 < l0.length) = true := decide_eq_true (by omega)
        clear c8
        (first | rw [c8b0] | (simp only [i64_w, i32_w]; rw [c8b0]) | rw [c8b1] | skip)
        have H' := Aside0.mk H
        clear H
        go_wp2
        go_meet
        case rel => exact ⟨_, (true), (by first | rfl | (simp; done) | (congr 2; (try unfold wrap64); omega) | (simp [*]; done)), H', ⟨by first | omega | exact Nat.le_refl _⟩, ⟨by repeat (first | (with_reducible first | exact HB.out | apply below_alloc | apply pw_below_drewN | apply below_drew1) | exact HB.out)⟩⟩
      · rw [if_neg c8] at H
        have c8b0 : decide (2000 < (l0.length : Int)) = false := decide_eq_false c8
        have c8b1 : decide (2000 < l0.length) = false := decide_eq_false (by omega)
        clear c8
        (first | rw [c8b0] | (simp only [i64_w, i32_w]; rw [c8b0]) | rw [c8b1] | skip)
        replace H := Option.bind_eq_some_iff.mp H
        obtain ⟨t511, A90, H⟩ := H
        replace H : (if t511 = true then ((plexusref46_Small.f k l2).bind fun t512 => (plexuslaw46_JournalForm.j0 k l0 l1 l2 true (!t512))) else (plexuslaw46_JournalForm.j0 k l0 l1 l2 true true)) = some r := H
        have A9 := Aside0.mk A90
        clear A90
        by_cases c10 : t511 = true
        · subst c10
          have H1 : ((plexusref46_Small.f k l2).bind fun t512 => (plexuslaw46_JournalForm.j0 k l0 l1 l2 true (!t512))) = some r := by rw [if_pos rfl] at H; exact H
          clear H
          have H := H1
          clear H1
          replace H := Option.bind_eq_some_iff.mp H
          obtain ⟨t512, A110, H⟩ := H
          replace H : (plexuslaw46_JournalForm.j0 k l0 l1 l2 true (!t512)) = some r := H
          have A11 := Aside0.mk A110
          clear A110
          have H' := Aside0.mk H
          clear H
          go_wp2_with (first | (go_at_call 23; (with_reducible refine (plexusref46_Small.calls k _ _ l1 true _ ?side1 ?side2 A9.out).mono ?_); (case side1 => repeat (first | exact (Kd.C_below HR1.out HB.out) | (with_reducible refine Kd.C_alloc ?_ _) | (with_reducible refine Kd.C_drewN ?_ _) | (with_reducible refine Kd.C_drew ?_))); (case side2 => exact HC1.out); rintro e w' ⟨rfl, ⟨nd, rfl⟩⟩) | (go_at_call 23; (with_reducible refine (plexusref46_Small.calls k _ _ l2 t512 _ ?side1 ?side2 A11.out).mono ?_); (case side1 => repeat (first | exact (Kd.C_below HR2.out (by repeat (first | (with_reducible first | exact HB.out | apply below_alloc | apply pw_below_drewN | apply below_drew1) | exact HB.out))) | (with_reducible refine Kd.C_alloc ?_ _) | (with_reducible refine Kd.C_drewN ?_ _) | (with_reducible refine Kd.C_drew ?_))); (case side2 => exact HC2.out); rintro e w' ⟨rfl, ⟨nd, rfl⟩⟩))
          go_meet
          case rel => exact ⟨_, (!t512), (by first | rfl | (simp; done) | (congr 2; (try unfold wrap64); omega) | (simp [*]; done)), H', ⟨by first | omega | exact Nat.le_refl _⟩, ⟨by repeat (first | (with_reducible first | exact HB.out | apply below_alloc | apply pw_below_drewN | apply below_drew1) | exact HB.out)⟩⟩
        · replace c10 := Bool.eq_false_iff.mpr c10
          subst c10
          have H1 : (plexuslaw46_JournalForm.j0 k l0 l1 l2 true true) = some r := by rw [if_neg (show ¬ (false = true) by decide)] at H; exact H
          clear H
          have H := H1
          clear H1
          have H' := Aside0.mk H
          clear H
          go_wp2_with (first | (go_at_call 23; (with_reducible refine (plexusref46_Small.calls k _ _ l1 false _ ?side1 ?side2 A9.out).mono ?_); (case side1 => repeat (first | exact (Kd.C_below HR1.out HB.out) | (with_reducible refine Kd.C_alloc ?_ _) | (with_reducible refine Kd.C_drewN ?_ _) | (with_reducible refine Kd.C_drew ?_))); (case side2 => exact HC1.out); rintro e w' ⟨rfl, ⟨nd, rfl⟩⟩))
          go_meet
          case rel => exact ⟨_, (true), (by first | rfl | (simp; done) | (congr 2; (try unfold wrap64); omega) | (simp [*]; done)), H', ⟨by first | omega | exact Nat.le_refl _⟩, ⟨by repeat (first | (with_reducible first | exact HB.out | apply below_alloc | apply pw_below_drewN | apply below_drew1) | exact HB.out)⟩⟩
    case rest =>
      clear HC6
      try clear c1
      try clear c2
      try clear p2
      try clear c5
      try clear c8
      try clear c8b0
      try clear c8b1
      try clear c10
      obtain ⟨kq, x32_5, rfl, HA, HJ5, HB⟩ := hcut
      cases kq with
      | zero => exact absurd HA.out (by simp [plexuslaw46_JournalForm.j0])
      | succ kj5 =>
        have H := HA.out
        clear HA
        simp only [plexuslaw46_JournalForm.j0] at H
        by_cases c12 : x32_5 = true
        · subst c12
          have H1 : (some true) = some r := by rw [if_pos rfl] at H; exact H
          clear H
          have H := H1
          clear H1
          obtain rfl := Option.some.inj H
          go_wp2
          go_ret
          exact ⟨by first | rfl | (simp [errW_none, errW_some] <;> rfl) | (simp [*, errW_none, errW_some] <;> rfl), by repeat (first | (with_reducible first | exact HB.out | apply below_alloc | apply pw_below_drewN | apply below_drew1) | exact HB.out)⟩
        · replace c12 := Bool.eq_false_iff.mpr c12
          subst c12
          have H1 : ((journal_Whole.f kj5 l0).bind fun t513 => ((plexuslaw46_read.f kj5 t513).bind fun bt516 => ((plexuslaw46_made.f kj5 bt516.1).bind fun bt524 => ((plexuslaw46_read.f kj5 l0).bind fun bt530 => (if bt516.2.2 = 0 then ((plexusref46_Same.f bt524.1 t513).bind fun t538 => (if t538 = true then ((plexusref46_Records.f kj5 bt530.1 bt516.1).bind fun t539 => (if t539 = true then (if (wrap64 ((t513.length : Int) + (bt530.2.1.length : Int))) = (l0.length : Int) then (if ((bt530.2.2 == 0) != ((bt530.2.1.length : Int) == 0)) = true then (none) else ((plexuslaw46_made.f kj5 l1).bind fun bt540 => ((plexuslaw46_made.f kj5 l2).bind fun bt546 => ((plexusref46_Same.f bt540.1 bt546.1).bind fun t552 => ((plexusref46_Records.f kj5 l1 l2).bind fun t553 => (if (t552 == t553) = true then (some true) else (none))))))) else (none)) else (none))) else (none))) else (none)))))) = some r := by rw [if_neg (show ¬ (false = true) by decide)] at H; exact H
          clear H
          have H := H1
          clear H1
          replace H := Option.bind_eq_some_iff.mp H
          obtain ⟨t513, A130, H⟩ := H
          replace H : ((plexuslaw46_read.f kj5 t513).bind fun bt516 => ((plexuslaw46_made.f kj5 bt516.1).bind fun bt524 => ((plexuslaw46_read.f kj5 l0).bind fun bt530 => (if bt516.2.2 = 0 then ((plexusref46_Same.f bt524.1 t513).bind fun t538 => (if t538 = true then ((plexusref46_Records.f kj5 bt530.1 bt516.1).bind fun t539 => (if t539 = true then (if (wrap64 ((t513.length : Int) + (bt530.2.1.length : Int))) = (l0.length : Int) then (if ((bt530.2.2 == 0) != ((bt530.2.1.length : Int) == 0)) = true then (none) else ((plexuslaw46_made.f kj5 l1).bind fun bt540 => ((plexuslaw46_made.f kj5 l2).bind fun bt546 => ((plexusref46_Same.f bt540.1 bt546.1).bind fun t552 => ((plexusref46_Records.f kj5 l1 l2).bind fun t553 => (if (t552 == t553) = true then (some true) else (none))))))) else (none)) else (none))) else (none))) else (none))))) = some r := H
          have A13 := Aside0.mk A130
          clear A130
          replace H := Option.bind_eq_some_iff.mp H
          obtain ⟨⟨t516, t519, t522⟩, A140, H⟩ := H
          replace H : ((plexuslaw46_made.f kj5 t516).bind fun bt524 => ((plexuslaw46_read.f kj5 l0).bind fun bt530 => (if t522 = 0 then ((plexusref46_Same.f bt524.1 t513).bind fun t538 => (if t538 = true then ((plexusref46_Records.f kj5 bt530.1 t516).bind fun t539 => (if t539 = true then (if (wrap64 ((t513.length : Int) + (bt530.2.1.length : Int))) = (l0.length : Int) then (if ((bt530.2.2 == 0) != ((bt530.2.1.length : Int) == 0)) = true then (none) else ((plexuslaw46_made.f kj5 l1).bind fun bt540 => ((plexuslaw46_made.f kj5 l2).bind fun bt546 => ((plexusref46_Same.f bt540.1 bt546.1).bind fun t552 => ((plexusref46_Records.f kj5 l1 l2).bind fun t553 => (if (t552 == t553) = true then (some true) else (none))))))) else (none)) else (none))) else (none))) else (none)))) = some r := H
          have A14 := Aside0.mk A140
          clear A140
          replace H := Option.bind_eq_some_iff.mp H
          obtain ⟨⟨t524, t525⟩, A150, H⟩ := H
          replace H : ((plexuslaw46_read.f kj5 l0).bind fun bt530 => (if t522 = 0 then ((plexusref46_Same.f t524 t513).bind fun t538 => (if t538 = true then ((plexusref46_Records.f kj5 bt530.1 t516).bind fun t539 => (if t539 = true then (if (wrap64 ((t513.length : Int) + (bt530.2.1.length : Int))) = (l0.length : Int) then (if ((bt530.2.2 == 0) != ((bt530.2.1.length : Int) == 0)) = true then (none) else ((plexuslaw46_made.f kj5 l1).bind fun bt540 => ((plexuslaw46_made.f kj5 l2).bind fun bt546 => ((plexusref46_Same.f bt540.1 bt546.1).bind fun t552 => ((plexusref46_Records.f kj5 l1 l2).bind fun t553 => (if (t552 == t553) = true then (some true) else (none))))))) else (none)) else (none))) else (none))) else (none))) = some r := H
          have A15 := Aside0.mk A150
          clear A150
          replace H := Option.bind_eq_some_iff.mp H
          obtain ⟨⟨t530, t533, t536⟩, A160, H⟩ := H
          replace H : (if t522 = 0 then ((plexusref46_Same.f t524 t513).bind fun t538 => (if t538 = true then ((plexusref46_Records.f kj5 t530 t516).bind fun t539 => (if t539 = true then (if (wrap64 ((t513.length : Int) + (t533.length : Int))) = (l0.length : Int) then (if ((t536 == 0) != ((t533.length : Int) == 0)) = true then (none) else ((plexuslaw46_made.f kj5 l1).bind fun bt540 => ((plexuslaw46_made.f kj5 l2).bind fun bt546 => ((plexusref46_Same.f bt540.1 bt546.1).bind fun t552 => ((plexusref46_Records.f kj5 l1 l2).bind fun t553 => (if (t552 == t553) = true then (some true) else (none))))))) else (none)) else (none))) else (none))) else (none)) = some r := H
          have A16 := Aside0.mk A160
          clear A160
          by_cases c17 : t522 = 0
          · rw [if_pos c17] at H
            have c17b0 : (t522 == 0) = true := beq_iff_eq.mpr c17
            have c17b1 : (t522 != 0) = false := bne_eq_false_iff_eq.mpr c17
            clear c17
            replace H := Option.bind_eq_some_iff.mp H
            obtain ⟨t538, A180, H⟩ := H
            replace H : (if t538 = true then ((plexusref46_Records.f kj5 t530 t516).bind fun t539 => (if t539 = true then (if (wrap64 ((t513.length : Int) + (t533.length : Int))) = (l0.length : Int) then (if ((t536 == 0) != ((t533.length : Int) == 0)) = true then (none) else ((plexuslaw46_made.f kj5 l1).bind fun bt540 => ((plexuslaw46_made.f kj5 l2).bind fun bt546 => ((plexusref46_Same.f bt540.1 bt546.1).bind fun t552 => ((plexusref46_Records.f kj5 l1 l2).bind fun t553 => (if (t552 == t553) = true then (some true) else (none))))))) else (none)) else (none))) else (none)) = some r := H
            have A18 := Aside0.mk A180
            clear A180
            by_cases c19 : t538 = true
            · subst c19
              have H1 : ((plexusref46_Records.f kj5 t530 t516).bind fun t539 => (if t539 = true then (if (wrap64 ((t513.length : Int) + (t533.length : Int))) = (l0.length : Int) then (if ((t536 == 0) != ((t533.length : Int) == 0)) = true then (none) else ((plexuslaw46_made.f kj5 l1).bind fun bt540 => ((plexuslaw46_made.f kj5 l2).bind fun bt546 => ((plexusref46_Same.f bt540.1 bt546.1).bind fun t552 => ((plexusref46_Records.f kj5 l1 l2).bind fun t553 => (if (t552 == t553) = true then (some true) else (none))))))) else (none)) else (none))) = some r := by rw [if_pos rfl] at H; exact H
              clear H
              have H := H1
              clear H1
              replace H := Option.bind_eq_some_iff.mp H
              obtain ⟨t539, A200, H⟩ := H
              replace H : (if t539 = true then (if (wrap64 ((t513.length : Int) + (t533.length : Int))) = (l0.length : Int) then (if ((t536 == 0) != ((t533.length : Int) == 0)) = true then (none) else ((plexuslaw46_made.f kj5 l1).bind fun bt540 => ((plexuslaw46_made.f kj5 l2).bind fun bt546 => ((plexusref46_Same.f bt540.1 bt546.1).bind fun t552 => ((plexusref46_Records.f kj5 l1 l2).bind fun t553 => (if (t552 == t553) = true then (some true) else (none))))))) else (none)) else (none)) = some r := H
              have A20 := Aside0.mk A200
              clear A200
              by_cases c21 : t539 = true
              · subst c21
                have H1 : (if (wrap64 ((t513.length : Int) + (t533.length : Int))) = (l0.length : Int) then (if ((t536 == 0) != ((t533.length : Int) == 0)) = true then (none) else ((plexuslaw46_made.f kj5 l1).bind fun bt540 => ((plexuslaw46_made.f kj5 l2).bind fun bt546 => ((plexusref46_Same.f bt540.1 bt546.1).bind fun t552 => ((plexusref46_Records.f kj5 l1 l2).bind fun t553 => (if (t552 == t553) = true then (some true) else (none))))))) else (none)) = some r := by rw [if_pos rfl] at H; exact H
                clear H
                have H := H1
                clear H1
                by_cases c22 : (wrap64 ((t513.length : Int) + (t533.length : Int))) = (l0.length : Int)
                · rw [if_pos c22] at H
                  have c22b0 : ((wrap64 ((t513.length : Int) + (t533.length : Int))) == (l0.length : Int)) = true := beq_iff_eq.mpr c22
                  have c22b1 : ((wrap64 ((t513.length : Int) + (t533.length : Int))) != (l0.length : Int)) = false := bne_eq_false_iff_eq.mpr c22
                  clear c22
                  by_cases c23 : ((t536 == 0) != ((t533.length : Int) == 0)) = true
                  · rw [if_pos c23] at H
                    exact absurd H (by simp)
                  · rw [if_neg c23] at H
                    have c23b0 : ((t536 == 0) != ((t533.length : Int) == 0)) = false := by simpa using c23
                    (try (have c23b1 : decide ((t536 == 0) = ((t533.length : Int) == 0)) = true := by simpa using c23))
                    (try (have c23b2 : ((t536 == 0) == ((t533.length : Int) == 0)) = true := by simpa using c23))
                    clear c23
                    replace H := Option.bind_eq_some_iff.mp H
                    obtain ⟨⟨t540, t541⟩, A240, H⟩ := H
                    replace H : ((plexuslaw46_made.f kj5 l2).bind fun bt546 => ((plexusref46_Same.f t540 bt546.1).bind fun t552 => ((plexusref46_Records.f kj5 l1 l2).bind fun t553 => (if (t552 == t553) = true then (some true) else (none))))) = some r := H
                    have A24 := Aside0.mk A240
                    clear A240
                    replace H := Option.bind_eq_some_iff.mp H
                    obtain ⟨⟨t546, t547⟩, A250, H⟩ := H
                    replace H : ((plexusref46_Same.f t540 t546).bind fun t552 => ((plexusref46_Records.f kj5 l1 l2).bind fun t553 => (if (t552 == t553) = true then (some true) else (none)))) = some r := H
                    have A25 := Aside0.mk A250
                    clear A250
                    replace H := Option.bind_eq_some_iff.mp H
                    obtain ⟨t552, A260, H⟩ := H
                    replace H : ((plexusref46_Records.f kj5 l1 l2).bind fun t553 => (if (t552 == t553) = true then (some true) else (none))) = some r := H
                    have A26 := Aside0.mk A260
                    clear A260
                    replace H := Option.bind_eq_some_iff.mp H
                    obtain ⟨t553, A270, H⟩ := H
                    replace H : (if (t552 == t553) = true then (some true) else (none)) = some r := H
                    have A27 := Aside0.mk A270
                    clear A270
                    by_cases c28 : (t552 == t553) = true
                    · rw [if_pos c28] at H
                      have c28b0 : (t552 == t553) = true := c28
                      (try (have c28b1 : decide (t552 = t553) = true := by simpa using c28))
                      (try (have c28b2 : (t552 == t553) = true := by simpa using c28))
                      clear c28
                      obtain rfl := Option.some.inj H
                      go_wp2_with (first | ((with_reducible refine gate_callee (f := 31) rfl ?_); refine goesL_ (some 35) rfl rfl Try.func31 (by kernel_rfl) rfl #[.slice A0 l0.length c0] rfl (by (try simp only [List.map_toArray, List.map_cons, List.map_nil]); first | done | rfl | (simp only [List.length_drop, List.length_take]; rfl)) ?_; (with_reducible refine (journal_Whole.calls kj5 _ _ l0 t513 _ ?side1 ?side2 A13.out).mono ?_); (case side1 => repeat (first | exact (Kd.C_below HR0.out HB.out) | (with_reducible refine Kd.C_alloc ?_ _) | (with_reducible refine Kd.C_drewN ?_ _) | (with_reducible refine Kd.C_drew ?_))); (case side2 => exact HC0.out); rintro e w29 ⟨v514, rfl, ho0, hb⟩; refine ⟨_, rfl, ?_⟩; have n0_ := Aside0.mk (Kd.R_lower ho0 (below_size (by repeat (first | (with_reducible first | exact HB.out | apply below_alloc | apply pw_below_drewN | apply below_drew1) | exact HB.out)))); have n1_ := Aside0.mk (below_step (by repeat (first | (with_reducible first | exact HB.out | apply below_alloc | apply pw_below_drewN | apply below_drew1) | exact HB.out)) hb); clear HB; have HO515 := n0_; have HB := n1_; clear n0_ n1_; (try clear hb); (try clear hb2); (try clear hk); (try clear hi); (try clear ho0); obtain ⟨Ao30, co30, eo30⟩ := Kd.R_slice HO515.out; subst eo30) | ((with_reducible refine gate_callee (f := 26) rfl ?_); refine goesL_ (some 37) rfl rfl Try.func26 (by kernel_rfl) rfl #[.slice Ao30 t513.length co30] rfl (by (try simp only [List.map_toArray, List.map_cons, List.map_nil]); first | done | rfl | (simp only [List.length_drop, List.length_take]; rfl)) ?_; (with_reducible refine (plexuslaw46_read.calls kj5 _ _ t513 t516 t519 t522 _ ?side1 ?side2 A14.out).mono ?_); (case side1 => repeat (first | exact (Kd.R_reads' HO515.out).2.2 | (with_reducible refine Kd.C_alloc ?_ _) | (with_reducible refine Kd.C_drewN ?_ _) | (with_reducible refine Kd.C_drew ?_))); (case side2 => exact (Kd.R_reads' HO515.out).2.1); rintro e w31 ⟨v517, v520, rfl, ho0, ho1, hb⟩; refine ⟨_, rfl, ?_⟩; have n0_ := Aside0.mk (Kd.R_elder' (by (with_reducible repeat (first | apply Kd.R_alloc | apply Kd.R_drewN | apply Kd.R_drew)); exact HO515.out) (Kd.R_base ho1) hb); have n1_ := Aside0.mk (Kd.S_lower ho0 (below_size (by repeat (first | (with_reducible first | exact HB.out | apply below_alloc | apply pw_below_drewN | apply below_drew1) | exact HB.out)))); have n2_ := Aside0.mk (Kd.R_lower (Kd.R_new' ho1 (Kd.R_lt (by (with_reducible repeat (first | apply Kd.R_alloc | apply Kd.R_drewN | apply Kd.R_drew)); exact HO515.out))) (below_size (by repeat (first | (with_reducible first | exact HB.out | apply below_alloc | apply pw_below_drewN | apply below_drew1) | exact HB.out)))); have n3_ := Aside0.mk (below_step (by repeat (first | (with_reducible first | exact HB.out | apply below_alloc | apply pw_below_drewN | apply below_drew1) | exact HB.out)) hb); clear HO515; clear HB; have HO515 := n0_; have HO518 := n1_; have HO521 := n2_; have HB := n3_; clear n0_ n1_ n2_ n3_; (try clear hb); (try clear hb2); (try clear hk); (try clear hi); (try clear ho0); (try clear ho1)) | ((with_reducible refine gate_dst (N := 9) rfl ?_); (try (refine gate_guard (by rfl) ?_; dsimp only)); refine box_event ?hg (N := 9) ?hd (cs := #[.slice none 0 0, .slice none 0 0, .int .i64 0]) (t := 35) ?hr ?_; (case hd => rfl); (case hg => rfl); (case hr => first | (go_simp; done) | (go_simp; rfl)); intro gb523 hg w32 hbox hb; have n0_ := Aside0.mk (Kd.R_below (by (with_reducible repeat (first | apply Kd.R_alloc | apply Kd.R_drewN | apply Kd.R_drew)); exact HO515.out) hb); have n1_ := Aside0.mk (Kd.S_below (by (with_reducible repeat (first | apply Kd.S_alloc | apply Kd.S_drewN | apply Kd.S_drew)); exact HO518.out) hb); have n2_ := Aside0.mk (Kd.R_below (by (with_reducible repeat (first | apply Kd.R_alloc | apply Kd.R_drewN | apply Kd.R_drew)); exact HO521.out) hb); have n3_ := Aside0.mk (below_step (by repeat (first | (with_reducible first | exact HB.out | apply below_alloc | apply pw_below_drewN | apply below_drew1) | exact HB.out)) hb); have n4_ := Aside0.mk (hbox); have n5_ := Aside0.mk ((by rw [hg]; exact (below_size (by repeat (first | (with_reducible first | exact HB.out | apply below_alloc | apply pw_below_drewN | apply below_drew1) | exact HB.out))) : w.heap.size ≤ gb523)); have n6_ := Aside0.mk ((by rw [hg]; exact (below_size (by repeat (first | (with_reducible first | exact HB.out | apply below_alloc | apply pw_below_drewN | apply below_drew1) | exact HB.out))) : w.heap.size ≤ gb523)); clear HO515; clear HO518; clear HO521; clear HB; have HO515 := n0_; have HO518 := n1_; have HO521 := n2_; have HB := n3_; have BK523 := n4_; have GW523 := n5_; have GE523 := n6_; clear n0_ n1_ n2_ n3_ n4_ n5_ n6_; clear hb hbox hg; obtain ⟨Ao33, co33, eo33⟩ := Kd.S_slice HO518.out; subst eo33; have hcz34_0 : w32.cell? ⟨gb523, 0, none⟩ = some (.slice none 0 0) := (blk_cell BK523.out 0).trans rfl; have hcz34_1 : w32.cell? ⟨gb523, 1, none⟩ = some (.slice none 0 0) := (blk_cell BK523.out 1).trans rfl; have hcz34_2 : w32.cell? ⟨gb523, 2, none⟩ = some (.int .i64 0) := (blk_cell BK523.out 2).trans rfl; have hfz34_0 := blk_frozen BK523.out 0; have hfz34_1 := blk_frozen BK523.out 1; have hfz34_2 := blk_frozen BK523.out 2; obtain ⟨Ao35, co35, eo35⟩ := Kd.R_slice HO521.out; subst eo35) | ((with_reducible refine gate_callee (f := 33) rfl ?_); refine goesL_ (some 41) rfl rfl Try.func33 (by kernel_rfl) rfl #[.slice Ao33 t516.length co33] rfl (by (try simp only [List.map_toArray, List.map_cons, List.map_nil]); first | done | rfl | (simp only [List.length_drop, List.length_take]; rfl)) ?_; (with_reducible refine (plexuslaw46_made.calls kj5 _ _ t516 t524 t525 _ ?side1 ?side2 A15.out).mono ?_); (case side1 => refine (Kd.S_reads' (e := 29) (base := w.heap.size) (ok := fun k_ => True) (n := t516.length) (c := co33) ?_).2.2; exact (by (with_reducible repeat (first | apply Kd.S_alloc | apply Kd.S_drewN | apply Kd.S_drew)); exact (Kd.S_mono (Kd.S_far (p := ⟨gb523, 2, none⟩) (Kd.S_far (p := ⟨gb523, 1, none⟩) (Kd.S_far (p := ⟨gb523, 0, none⟩) (Kd.S_types HO518.out BK523.out (by decide)) (fun _ hk => hk.2) (.slice Ao33 t516.length co33)) (fun _ hk => hk.2) (.slice Ao35 t519.length co35)) (fun _ hk => hk.2) (.int .i64 t522)) (fun _ h_ => h_.1)))); (case side2 => exact (Kd.S_reads' HO518.out).2.1); rintro e w36 ⟨v526, v528, rfl, ho0, ho1, hb⟩; refine ⟨_, rfl, ?_⟩; have n0_ := Aside0.mk (Kd.R_elder' (by (with_reducible repeat (first | apply Kd.R_alloc | apply Kd.R_drewN | apply Kd.R_drew)); exact (Kd.R_mono (Kd.R_far (p := ⟨gb523, 2, none⟩) (Kd.R_far (p := ⟨gb523, 1, none⟩) (Kd.R_far (p := ⟨gb523, 0, none⟩) (Kd.R_types HO515.out BK523.out (by decide)) (fun _ hk => hk.2) (.slice Ao33 t516.length co33)) (fun _ hk => hk.2) (.slice Ao35 t519.length co35)) (fun _ hk => hk.2) (.int .i64 t522)) (fun _ h_ => h_.1))) (Kd.R_base ho0) hb); have n1_ := Aside0.mk (Kd.S_elder' (by (with_reducible repeat (first | apply Kd.S_alloc | apply Kd.S_drewN | apply Kd.S_drew)); exact (Kd.S_mono (Kd.S_far (p := ⟨gb523, 2, none⟩) (Kd.S_far (p := ⟨gb523, 1, none⟩) (Kd.S_far (p := ⟨gb523, 0, none⟩) (Kd.S_types HO518.out BK523.out (by decide)) (fun _ hk => hk.2) (.slice Ao33 t516.length co33)) (fun _ hk => hk.2) (.slice Ao35 t519.length co35)) (fun _ hk => hk.2) (.int .i64 t522)) (fun _ h_ => h_.1))) (Kd.R_base ho1) hb); have n2_ := Aside0.mk (Kd.R_elder' (by (with_reducible repeat (first | apply Kd.R_alloc | apply Kd.R_drewN | apply Kd.R_drew)); exact (Kd.R_mono (Kd.R_far (p := ⟨gb523, 2, none⟩) (Kd.R_far (p := ⟨gb523, 1, none⟩) (Kd.R_far (p := ⟨gb523, 0, none⟩) (Kd.R_types HO521.out BK523.out (by decide)) (fun _ hk => hk.2) (.slice Ao33 t516.length co33)) (fun _ hk => hk.2) (.slice Ao35 t519.length co35)) (fun _ hk => hk.2) (.int .i64 t522)) (fun _ h_ => h_.1))) (Kd.R_base ho0) hb); have n3_ := Aside0.mk (Kd.R_lower (Kd.R_new' (Kd.R_new' ho0 (Kd.R_lt (by (with_reducible repeat (first | apply Kd.R_alloc | apply Kd.R_drewN | apply Kd.R_drew)); exact (Kd.R_mono (Kd.R_far (p := ⟨gb523, 2, none⟩) (Kd.R_far (p := ⟨gb523, 1, none⟩) (Kd.R_far (p := ⟨gb523, 0, none⟩) (Kd.R_types HO515.out BK523.out (by decide)) (fun _ hk => hk.2) (.slice Ao33 t516.length co33)) (fun _ hk => hk.2) (.slice Ao35 t519.length co35)) (fun _ hk => hk.2) (.int .i64 t522)) (fun _ h_ => h_.1))))) (Kd.R_lt (by (with_reducible repeat (first | apply Kd.R_alloc | apply Kd.R_drewN | apply Kd.R_drew)); exact (Kd.R_mono (Kd.R_far (p := ⟨gb523, 2, none⟩) (Kd.R_far (p := ⟨gb523, 1, none⟩) (Kd.R_far (p := ⟨gb523, 0, none⟩) (Kd.R_types HO521.out BK523.out (by decide)) (fun _ hk => hk.2) (.slice Ao33 t516.length co33)) (fun _ hk => hk.2) (.slice Ao35 t519.length co35)) (fun _ hk => hk.2) (.int .i64 t522)) (fun _ h_ => h_.1))))) (below_size (by repeat (first | (with_reducible first | exact HB.out | apply below_alloc | apply pw_below_drewN | apply below_drew1 | refine below_set ?_ GE523.out) | exact HB.out)))); have n4_ := Aside0.mk (Kd.R_lower ho1 (below_size (by repeat (first | (with_reducible first | exact HB.out | apply below_alloc | apply pw_below_drewN | apply below_drew1 | refine below_set ?_ GE523.out) | exact HB.out)))); have n5_ := Aside0.mk (blk_below (g := gb523) (o := .cells #[.slice Ao33 t516.length co33, .slice Ao35 t519.length co35, .int .i64 t522] 35 (0, 0)) (by (with_reducible repeat (first | refine blk_drewN ?_ _ | refine blk_drew ?_ | refine blk_alloc ?_ _)); refine blk_put (cs := #[.slice Ao33 t516.length co33, .slice Ao35 t519.length co35, .int .i64 0]) ?_ 2 _ rfl; (with_reducible repeat (first | refine blk_drewN ?_ _ | refine blk_drew ?_ | refine blk_alloc ?_ _)); refine blk_put (cs := #[.slice Ao33 t516.length co33, .slice none 0 0, .int .i64 0]) ?_ 1 _ rfl; (with_reducible repeat (first | refine blk_drewN ?_ _ | refine blk_drew ?_ | refine blk_alloc ?_ _)); refine blk_put (cs := #[.slice none 0 0, .slice none 0 0, .int .i64 0]) ?_ 0 _ rfl; (with_reducible repeat (first | refine blk_drewN ?_ _ | refine blk_drew ?_ | refine blk_alloc ?_ _)); exact BK523.out) hb); have n6_ := Aside0.mk (below_step (by repeat (first | (with_reducible first | exact HB.out | apply below_alloc | apply pw_below_drewN | apply below_drew1 | refine below_set ?_ GE523.out) | exact HB.out)) hb); clear HO515; clear HO518; clear HO521; clear BK523; clear HB; have HO515 := n0_; have HO518 := n1_; have HO521 := n2_; have HO527 := n3_; have HO529 := n4_; have BK523 := n5_; have HB := n6_; clear n0_ n1_ n2_ n3_ n4_ n5_ n6_; (try clear hb); (try clear hb2); (try clear hk); (try clear hi); (try clear ho0); (try clear ho1)) | ((with_reducible refine gate_callee (f := 26) rfl ?_); refine goesL_ (some 45) rfl rfl Try.func26 (by kernel_rfl) rfl #[.slice A0 l0.length c0] rfl (by (try simp only [List.map_toArray, List.map_cons, List.map_nil]); first | done | rfl | (simp only [List.length_drop, List.length_take]; rfl)) ?_; (with_reducible refine (plexuslaw46_read.calls kj5 _ _ l0 t530 t533 t536 _ ?side1 ?side2 A16.out).mono ?_); (case side1 => repeat (first | exact (Kd.C_below HR0.out HB.out) | (with_reducible refine Kd.C_alloc ?_ _) | (with_reducible refine Kd.C_drewN ?_ _) | (with_reducible refine Kd.C_drew ?_))); (case side2 => exact HC0.out); rintro e w37 ⟨v531, v534, rfl, ho0, ho1, hb⟩; refine ⟨_, rfl, ?_⟩; have n0_ := Aside0.mk (Kd.R_elder' (by (with_reducible repeat (first | apply Kd.R_alloc | apply Kd.R_drewN | apply Kd.R_drew)); exact HO515.out) (Kd.R_base ho1) hb); have n1_ := Aside0.mk (Kd.S_elder' (by (with_reducible repeat (first | apply Kd.S_alloc | apply Kd.S_drewN | apply Kd.S_drew)); exact HO518.out) (Kd.S_base ho0) hb); have n2_ := Aside0.mk (Kd.R_elder' (by (with_reducible repeat (first | apply Kd.R_alloc | apply Kd.R_drewN | apply Kd.R_drew)); exact HO521.out) (Kd.R_base ho1) hb); have n3_ := Aside0.mk (Kd.R_elder' (by (with_reducible repeat (first | apply Kd.R_alloc | apply Kd.R_drewN | apply Kd.R_drew)); exact HO527.out) (Kd.R_base ho1) hb); have n4_ := Aside0.mk (Kd.R_below (by (with_reducible repeat (first | apply Kd.R_alloc | apply Kd.R_drewN | apply Kd.R_drew)); exact HO529.out) hb); have n5_ := Aside0.mk (Kd.S_lower (Kd.S_new' (Kd.S_new' ho0 (Kd.S_lt (by (with_reducible repeat (first | apply Kd.S_alloc | apply Kd.S_drewN | apply Kd.S_drew)); exact HO518.out))) (Kd.R_lt (by (with_reducible repeat (first | apply Kd.R_alloc | apply Kd.R_drewN | apply Kd.R_drew)); exact HO529.out))) (below_size (by repeat (first | (with_reducible first | exact HB.out | apply below_alloc | apply pw_below_drewN | apply below_drew1 | refine below_set ?_ GE523.out) | exact HB.out)))); have n6_ := Aside0.mk (Kd.R_lower (Kd.R_new' (Kd.R_new' (Kd.R_new' ho1 (Kd.R_lt (by (with_reducible repeat (first | apply Kd.R_alloc | apply Kd.R_drewN | apply Kd.R_drew)); exact HO515.out))) (Kd.R_lt (by (with_reducible repeat (first | apply Kd.R_alloc | apply Kd.R_drewN | apply Kd.R_drew)); exact HO521.out))) (Kd.R_lt (by (with_reducible repeat (first | apply Kd.R_alloc | apply Kd.R_drewN | apply Kd.R_drew)); exact HO527.out))) (below_size (by repeat (first | (with_reducible first | exact HB.out | apply below_alloc | apply pw_below_drewN | apply below_drew1 | refine below_set ?_ GE523.out) | exact HB.out)))); have n7_ := Aside0.mk (blk_below (g := gb523) (o := .cells #[.slice Ao33 t516.length co33, .slice Ao35 t519.length co35, .int .i64 t522] 35 (0, 0)) (by (with_reducible repeat (first | refine blk_drewN ?_ _ | refine blk_drew ?_ | refine blk_alloc ?_ _)); exact BK523.out) hb); have n8_ := Aside0.mk (below_step (by repeat (first | (with_reducible first | exact HB.out | apply below_alloc | apply pw_below_drewN | apply below_drew1 | refine below_set ?_ GE523.out) | exact HB.out)) hb); clear HO515; clear HO518; clear HO521; clear HO527; clear HO529; clear BK523; clear HB; have HO515 := n0_; have HO518 := n1_; have HO521 := n2_; have HO527 := n3_; have HO529 := n4_; have HO532 := n5_; have HO535 := n6_; have BK523 := n7_; have HB := n8_; clear n0_ n1_ n2_ n3_ n4_ n5_ n6_ n7_ n8_; (try clear hb); (try clear hb2); (try clear hk); (try clear hi); (try clear ho0); (try clear ho1)) | ((with_reducible refine gate_dst (N := 12) rfl ?_); (try (refine gate_guard (by rfl) ?_; dsimp only)); refine box_event ?hg (N := 12) ?hd (cs := #[.slice none 0 0, .slice none 0 0, .int .i64 0]) (t := 35) ?hr ?_; (case hd => rfl); (case hg => rfl); (case hr => first | (go_simp; done) | (go_simp; rfl)); intro gb537 hg w38 hbox hb; have n0_ := Aside0.mk (Kd.R_below (by (with_reducible repeat (first | apply Kd.R_alloc | apply Kd.R_drewN | apply Kd.R_drew)); exact HO515.out) hb); have n1_ := Aside0.mk (Kd.S_below (by (with_reducible repeat (first | apply Kd.S_alloc | apply Kd.S_drewN | apply Kd.S_drew)); exact HO518.out) hb); have n2_ := Aside0.mk (Kd.R_below (by (with_reducible repeat (first | apply Kd.R_alloc | apply Kd.R_drewN | apply Kd.R_drew)); exact HO521.out) hb); have n3_ := Aside0.mk (Kd.R_below (by (with_reducible repeat (first | apply Kd.R_alloc | apply Kd.R_drewN | apply Kd.R_drew)); exact HO527.out) hb); have n4_ := Aside0.mk (Kd.R_below (by (with_reducible repeat (first | apply Kd.R_alloc | apply Kd.R_drewN | apply Kd.R_drew)); exact HO529.out) hb); have n5_ := Aside0.mk (Kd.S_below (by (with_reducible repeat (first | apply Kd.S_alloc | apply Kd.S_drewN | apply Kd.S_drew)); exact HO532.out) hb); have n6_ := Aside0.mk (Kd.R_below (by (with_reducible repeat (first | apply Kd.R_alloc | apply Kd.R_drewN | apply Kd.R_drew)); exact HO535.out) hb); have n7_ := Aside0.mk (blk_below (g := gb523) (o := .cells #[.slice Ao33 t516.length co33, .slice Ao35 t519.length co35, .int .i64 t522] 35 (0, 0)) (by (with_reducible repeat (first | refine blk_drewN ?_ _ | refine blk_drew ?_ | refine blk_alloc ?_ _)); exact BK523.out) hb); have n8_ := Aside0.mk (below_step (by repeat (first | (with_reducible first | exact HB.out | apply below_alloc | apply pw_below_drewN | apply below_drew1 | refine below_set ?_ GE523.out) | exact HB.out)) hb); have n9_ := Aside0.mk (hbox); have n10_ := Aside0.mk ((by rw [hg]; exact (below_size (by repeat (first | (with_reducible first | exact HB.out | apply below_alloc | apply pw_below_drewN | apply below_drew1 | refine below_set ?_ GE523.out) | exact HB.out))) : w.heap.size ≤ gb537)); have n11_ := Aside0.mk ((by rw [hg]; exact (below_size (by repeat (first | (with_reducible first | exact HB.out | apply below_alloc | apply pw_below_drewN | apply below_drew1 | refine below_set ?_ GE523.out) | exact HB.out))) : w.heap.size ≤ gb537)); have n12_ := Aside0.mk ((by rw [hg]; exact Nat.ne_of_lt (blk_lt (g := gb523) (o := .cells #[.slice Ao33 t516.length co33, .slice Ao35 t519.length co35, .int .i64 t522] 35 (0, 0)) (by (with_reducible repeat (first | refine blk_drewN ?_ _ | refine blk_drew ?_ | refine blk_alloc ?_ _)); exact BK523.out)) : gb523 ≠ gb537)); have n13_ := Aside0.mk ((by rw [hg]; exact Nat.ne_of_gt (blk_lt (g := gb523) (o := .cells #[.slice Ao33 t516.length co33, .slice Ao35 t519.length co35, .int .i64 t522] 35 (0, 0)) (by (with_reducible repeat (first | refine blk_drewN ?_ _ | refine blk_drew ?_ | refine blk_alloc ?_ _)); exact BK523.out)) : gb537 ≠ gb523)); clear HO515; clear HO518; clear HO521; clear HO527; clear HO529; clear HO532; clear HO535; clear BK523; clear HB; have HO515 := n0_; have HO518 := n1_; have HO521 := n2_; have HO527 := n3_; have HO529 := n4_; have HO532 := n5_; have HO535 := n6_; have BK523 := n7_; have HB := n8_; have BK537 := n9_; have GW537 := n10_; have GE537 := n11_; have NB523_537 := n12_; have NB537_523 := n13_; clear n0_ n1_ n2_ n3_ n4_ n5_ n6_ n7_ n8_ n9_ n10_ n11_ n12_ n13_; clear hb hbox hg; obtain ⟨Ao39, co39, eo39⟩ := Kd.S_slice HO532.out; subst eo39; have hnb40 := NB537_523.out; have hnc40 := NB523_537.out; have hcz41_0 : w38.cell? ⟨gb537, 0, none⟩ = some (.slice none 0 0) := (blk_cell BK537.out 0).trans rfl; have hcz41_1 : w38.cell? ⟨gb537, 1, none⟩ = some (.slice none 0 0) := (blk_cell BK537.out 1).trans rfl; have hcz41_2 : w38.cell? ⟨gb537, 2, none⟩ = some (.int .i64 0) := (blk_cell BK537.out 2).trans rfl; have hfz41_0 := blk_frozen BK537.out 0; have hfz41_1 := blk_frozen BK537.out 1; have hfz41_2 := blk_frozen BK537.out 2; obtain ⟨Ao42, co42, eo42⟩ := Kd.R_slice HO535.out; subst eo42; have hcz43_0 : w38.cell? ⟨gb523, 0, none⟩ = some (.slice Ao33 t516.length co33) := (blk_cell BK523.out 0).trans rfl; have hcz43_1 : w38.cell? ⟨gb523, 1, none⟩ = some (.slice Ao35 t519.length co35) := (blk_cell BK523.out 1).trans rfl; have hcz43_2 : w38.cell? ⟨gb523, 2, none⟩ = some (.int .i64 t522) := (blk_cell BK523.out 2).trans rfl; have hfz43_0 := blk_frozen BK523.out 0; have hfz43_1 := blk_frozen BK523.out 1; have hfz43_2 := blk_frozen BK523.out 2; obtain ⟨Ao44, co44, eo44⟩ := Kd.R_slice HO527.out; subst eo44) | (go_at_call 30; (with_reducible refine (plexusref46_Same.calls _ _ t524 _ _ t513 true _ ?side1 ?side2 ?side3 ?side4 A18.out).mono ?_); (case side1 => refine (Kd.R_reads' (e := 5) (base := w.heap.size) (ok := fun k_ => (((True ∧ some k_ ≠ (.slice Ao30 t513.length co30 : Value).ownBlock) ∧ some k_ ≠ (.slice Ao35 t519.length co35 : Value).ownBlock) ∧ some k_ ≠ (.slice Ao42 t533.length co42 : Value).ownBlock)) (n := t524.length) (c := co44) ?_).2.2; exact (by (with_reducible repeat (first | apply Kd.R_alloc | apply Kd.R_drewN | apply Kd.R_drew)); exact (Kd.R_mono (Kd.R_far (p := ⟨gb537, 2, none⟩) (Kd.R_far (p := ⟨gb537, 1, none⟩) (Kd.R_far (p := ⟨gb537, 0, none⟩) (Kd.R_types HO527.out BK537.out (by decide)) (fun _ hk => hk.2) (.slice Ao39 t530.length co39)) (fun _ hk => hk.2) (.slice Ao42 t533.length co42)) (fun _ hk => hk.2) (.int .i64 t536)) (fun _ h_ => h_.1)))); (case side2 => exact (Kd.R_reads' HO527.out).2.1); (case side3 => refine (Kd.R_reads' (e := 5) (base := w.heap.size) (ok := fun k_ => (((True ∧ some k_ ≠ (.slice Ao35 t519.length co35 : Value).ownBlock) ∧ some k_ ≠ (.slice Ao44 t524.length co44 : Value).ownBlock) ∧ some k_ ≠ (.slice Ao42 t533.length co42 : Value).ownBlock)) (n := t513.length) (c := co30) ?_).2.2; exact (by (with_reducible repeat (first | apply Kd.R_alloc | apply Kd.R_drewN | apply Kd.R_drew)); exact (Kd.R_mono (Kd.R_far (p := ⟨gb537, 2, none⟩) (Kd.R_far (p := ⟨gb537, 1, none⟩) (Kd.R_far (p := ⟨gb537, 0, none⟩) (Kd.R_types HO515.out BK537.out (by decide)) (fun _ hk => hk.2) (.slice Ao39 t530.length co39)) (fun _ hk => hk.2) (.slice Ao42 t533.length co42)) (fun _ hk => hk.2) (.int .i64 t536)) (fun _ h_ => h_.1)))); (case side4 => exact (Kd.R_reads' HO515.out).2.1); rintro e w' ⟨rfl, ⟨nd, rfl⟩⟩) | (go_at_call 29; (with_reducible refine (plexusref46_Records.calls kj5 _ _ t530 _ _ t516 true _ ?side1 ?side2 ?side3 ?side4 A20.out).mono ?_); (case side1 => refine (Kd.S_reads' (e := 29) (base := w.heap.size) (ok := fun k_ => ((True ∧ some k_ ≠ (.slice Ao33 t516.length co33 : Value).ownBlock) ∧ some k_ ≠ (v528 : Value).ownBlock)) (n := t530.length) (c := co39) ?_).2.2; exact (by (with_reducible repeat (first | apply Kd.S_alloc | apply Kd.S_drewN | apply Kd.S_drew)); exact (Kd.S_mono (Kd.S_far (p := ⟨gb537, 2, none⟩) (Kd.S_far (p := ⟨gb537, 1, none⟩) (Kd.S_far (p := ⟨gb537, 0, none⟩) (Kd.S_types HO532.out BK537.out (by decide)) (fun _ hk => hk.2) (.slice Ao39 t530.length co39)) (fun _ hk => hk.2) (.slice Ao42 t533.length co42)) (fun _ hk => hk.2) (.int .i64 t536)) (fun _ h_ => h_.1)))); (case side2 => exact (Kd.S_reads' HO532.out).2.1); (case side3 => refine (Kd.S_reads' (e := 29) (base := w.heap.size) (ok := fun k_ => ((True ∧ some k_ ≠ (v528 : Value).ownBlock) ∧ some k_ ≠ (.slice Ao39 t530.length co39 : Value).ownBlock)) (n := t516.length) (c := co33) ?_).2.2; exact (by (with_reducible repeat (first | apply Kd.S_alloc | apply Kd.S_drewN | apply Kd.S_drew)); exact (Kd.S_mono (Kd.S_far (p := ⟨gb537, 2, none⟩) (Kd.S_far (p := ⟨gb537, 1, none⟩) (Kd.S_far (p := ⟨gb537, 0, none⟩) (Kd.S_types HO518.out BK537.out (by decide)) (fun _ hk => hk.2) (.slice Ao39 t530.length co39)) (fun _ hk => hk.2) (.slice Ao42 t533.length co42)) (fun _ hk => hk.2) (.int .i64 t536)) (fun _ h_ => h_.1)))); (case side4 => exact (Kd.S_reads' HO518.out).2.1); rintro e w' ⟨rfl, ⟨nd, rfl⟩⟩) | ((with_reducible refine gate_callee (f := 33) rfl ?_); refine goesL_ (some 86) rfl rfl Try.func33 (by kernel_rfl) rfl #[.slice A1 l1.length c1] rfl (by (try simp only [List.map_toArray, List.map_cons, List.map_nil]); first | done | rfl | (simp only [List.length_drop, List.length_take]; rfl)) ?_; (with_reducible refine (plexuslaw46_made.calls kj5 _ _ l1 t540 t541 _ ?side1 ?side2 A24.out).mono ?_); (case side1 => exact Kd.C_below HR1.out (by repeat (first | (with_reducible first | exact HB.out | apply below_alloc | apply pw_below_drewN | apply below_drew1 | refine below_set ?_ GE523.out | refine below_set ?_ GE537.out) | exact HB.out))); (case side2 => exact HC1.out); rintro e w45 ⟨v542, v544, rfl, ho0, ho1, hb⟩; refine ⟨_, rfl, ?_⟩; have n0_ := Aside0.mk (Kd.R_elder' (by (with_reducible repeat (first | apply Kd.R_alloc | apply Kd.R_drewN | apply Kd.R_drew)); exact (Kd.R_mono (Kd.R_far (p := ⟨gb537, 2, none⟩) (Kd.R_far (p := ⟨gb537, 1, none⟩) (Kd.R_far (p := ⟨gb537, 0, none⟩) (Kd.R_types HO515.out BK537.out (by decide)) (fun _ hk => hk.2) (.slice Ao39 t530.length co39)) (fun _ hk => hk.2) (.slice Ao42 t533.length co42)) (fun _ hk => hk.2) (.int .i64 t536)) (fun _ h_ => h_.1))) (Kd.R_base ho0) hb); have n1_ := Aside0.mk (Kd.S_elder' (by (with_reducible repeat (first | apply Kd.S_alloc | apply Kd.S_drewN | apply Kd.S_drew)); exact (Kd.S_mono (Kd.S_far (p := ⟨gb537, 2, none⟩) (Kd.S_far (p := ⟨gb537, 1, none⟩) (Kd.S_far (p := ⟨gb537, 0, none⟩) (Kd.S_types HO518.out BK537.out (by decide)) (fun _ hk => hk.2) (.slice Ao39 t530.length co39)) (fun _ hk => hk.2) (.slice Ao42 t533.length co42)) (fun _ hk => hk.2) (.int .i64 t536)) (fun _ h_ => h_.1))) (Kd.R_base ho1) hb); have n2_ := Aside0.mk (Kd.R_elder' (by (with_reducible repeat (first | apply Kd.R_alloc | apply Kd.R_drewN | apply Kd.R_drew)); exact (Kd.R_mono (Kd.R_far (p := ⟨gb537, 2, none⟩) (Kd.R_far (p := ⟨gb537, 1, none⟩) (Kd.R_far (p := ⟨gb537, 0, none⟩) (Kd.R_types HO521.out BK537.out (by decide)) (fun _ hk => hk.2) (.slice Ao39 t530.length co39)) (fun _ hk => hk.2) (.slice Ao42 t533.length co42)) (fun _ hk => hk.2) (.int .i64 t536)) (fun _ h_ => h_.1))) (Kd.R_base ho0) hb); have n3_ := Aside0.mk (Kd.R_elder' (by (with_reducible repeat (first | apply Kd.R_alloc | apply Kd.R_drewN | apply Kd.R_drew)); exact (Kd.R_mono (Kd.R_far (p := ⟨gb537, 2, none⟩) (Kd.R_far (p := ⟨gb537, 1, none⟩) (Kd.R_far (p := ⟨gb537, 0, none⟩) (Kd.R_types HO527.out BK537.out (by decide)) (fun _ hk => hk.2) (.slice Ao39 t530.length co39)) (fun _ hk => hk.2) (.slice Ao42 t533.length co42)) (fun _ hk => hk.2) (.int .i64 t536)) (fun _ h_ => h_.1))) (Kd.R_base ho0) hb); have n4_ := Aside0.mk (Kd.R_elder' (by (with_reducible repeat (first | apply Kd.R_alloc | apply Kd.R_drewN | apply Kd.R_drew)); exact (Kd.R_mono (Kd.R_far (p := ⟨gb537, 2, none⟩) (Kd.R_far (p := ⟨gb537, 1, none⟩) (Kd.R_far (p := ⟨gb537, 0, none⟩) (Kd.R_types HO529.out BK537.out (by decide)) (fun _ hk => hk.2) (.slice Ao39 t530.length co39)) (fun _ hk => hk.2) (.slice Ao42 t533.length co42)) (fun _ hk => hk.2) (.int .i64 t536)) (fun _ h_ => h_.1))) (Kd.R_base ho1) hb); have n5_ := Aside0.mk (Kd.S_elder' (by (with_reducible repeat (first | apply Kd.S_alloc | apply Kd.S_drewN | apply Kd.S_drew)); exact (Kd.S_mono (Kd.S_far (p := ⟨gb537, 2, none⟩) (Kd.S_far (p := ⟨gb537, 1, none⟩) (Kd.S_far (p := ⟨gb537, 0, none⟩) (Kd.S_types HO532.out BK537.out (by decide)) (fun _ hk => hk.2) (.slice Ao39 t530.length co39)) (fun _ hk => hk.2) (.slice Ao42 t533.length co42)) (fun _ hk => hk.2) (.int .i64 t536)) (fun _ h_ => h_.1))) (Kd.R_base ho1) hb); have n6_ := Aside0.mk (Kd.R_elder' (by (with_reducible repeat (first | apply Kd.R_alloc | apply Kd.R_drewN | apply Kd.R_drew)); exact (Kd.R_mono (Kd.R_far (p := ⟨gb537, 2, none⟩) (Kd.R_far (p := ⟨gb537, 1, none⟩) (Kd.R_far (p := ⟨gb537, 0, none⟩) (Kd.R_types HO535.out BK537.out (by decide)) (fun _ hk => hk.2) (.slice Ao39 t530.length co39)) (fun _ hk => hk.2) (.slice Ao42 t533.length co42)) (fun _ hk => hk.2) (.int .i64 t536)) (fun _ h_ => h_.1))) (Kd.R_base ho0) hb); have n7_ := Aside0.mk (Kd.R_lower (Kd.R_new' (Kd.R_new' (Kd.R_new' (Kd.R_new' ho0 (Kd.R_lt (by (with_reducible repeat (first | apply Kd.R_alloc | apply Kd.R_drewN | apply Kd.R_drew)); exact (Kd.R_mono (Kd.R_far (p := ⟨gb537, 2, none⟩) (Kd.R_far (p := ⟨gb537, 1, none⟩) (Kd.R_far (p := ⟨gb537, 0, none⟩) (Kd.R_types HO515.out BK537.out (by decide)) (fun _ hk => hk.2) (.slice Ao39 t530.length co39)) (fun _ hk => hk.2) (.slice Ao42 t533.length co42)) (fun _ hk => hk.2) (.int .i64 t536)) (fun _ h_ => h_.1))))) (Kd.R_lt (by (with_reducible repeat (first | apply Kd.R_alloc | apply Kd.R_drewN | apply Kd.R_drew)); exact (Kd.R_mono (Kd.R_far (p := ⟨gb537, 2, none⟩) (Kd.R_far (p := ⟨gb537, 1, none⟩) (Kd.R_far (p := ⟨gb537, 0, none⟩) (Kd.R_types HO521.out BK537.out (by decide)) (fun _ hk => hk.2) (.slice Ao39 t530.length co39)) (fun _ hk => hk.2) (.slice Ao42 t533.length co42)) (fun _ hk => hk.2) (.int .i64 t536)) (fun _ h_ => h_.1))))) (Kd.R_lt (by (with_reducible repeat (first | apply Kd.R_alloc | apply Kd.R_drewN | apply Kd.R_drew)); exact (Kd.R_mono (Kd.R_far (p := ⟨gb537, 2, none⟩) (Kd.R_far (p := ⟨gb537, 1, none⟩) (Kd.R_far (p := ⟨gb537, 0, none⟩) (Kd.R_types HO527.out BK537.out (by decide)) (fun _ hk => hk.2) (.slice Ao39 t530.length co39)) (fun _ hk => hk.2) (.slice Ao42 t533.length co42)) (fun _ hk => hk.2) (.int .i64 t536)) (fun _ h_ => h_.1))))) (Kd.R_lt (by (with_reducible repeat (first | apply Kd.R_alloc | apply Kd.R_drewN | apply Kd.R_drew)); exact (Kd.R_mono (Kd.R_far (p := ⟨gb537, 2, none⟩) (Kd.R_far (p := ⟨gb537, 1, none⟩) (Kd.R_far (p := ⟨gb537, 0, none⟩) (Kd.R_types HO535.out BK537.out (by decide)) (fun _ hk => hk.2) (.slice Ao39 t530.length co39)) (fun _ hk => hk.2) (.slice Ao42 t533.length co42)) (fun _ hk => hk.2) (.int .i64 t536)) (fun _ h_ => h_.1))))) (below_size (by repeat (first | (with_reducible first | exact HB.out | apply below_alloc | apply pw_below_drewN | apply below_drew1 | refine below_set ?_ GE523.out | refine below_set ?_ GE537.out) | exact HB.out)))); have n8_ := Aside0.mk (Kd.R_lower (Kd.R_new' ho1 (Kd.R_lt (by (with_reducible repeat (first | apply Kd.R_alloc | apply Kd.R_drewN | apply Kd.R_drew)); exact (Kd.R_mono (Kd.R_far (p := ⟨gb537, 2, none⟩) (Kd.R_far (p := ⟨gb537, 1, none⟩) (Kd.R_far (p := ⟨gb537, 0, none⟩) (Kd.R_types HO529.out BK537.out (by decide)) (fun _ hk => hk.2) (.slice Ao39 t530.length co39)) (fun _ hk => hk.2) (.slice Ao42 t533.length co42)) (fun _ hk => hk.2) (.int .i64 t536)) (fun _ h_ => h_.1))))) (below_size (by repeat (first | (with_reducible first | exact HB.out | apply below_alloc | apply pw_below_drewN | apply below_drew1 | refine below_set ?_ GE523.out | refine below_set ?_ GE537.out) | exact HB.out)))); have n9_ := Aside0.mk (blk_below (g := gb523) (o := .cells #[.slice Ao33 t516.length co33, .slice Ao35 t519.length co35, .int .i64 t522] 35 (0, 0)) (by (with_reducible repeat (first | refine blk_drewN ?_ _ | refine blk_drew ?_ | refine blk_alloc ?_ _)); refine blk_far ?_ NB523_537.out _; (with_reducible repeat (first | refine blk_drewN ?_ _ | refine blk_drew ?_ | refine blk_alloc ?_ _)); refine blk_far ?_ NB523_537.out _; (with_reducible repeat (first | refine blk_drewN ?_ _ | refine blk_drew ?_ | refine blk_alloc ?_ _)); refine blk_far ?_ NB523_537.out _; (with_reducible repeat (first | refine blk_drewN ?_ _ | refine blk_drew ?_ | refine blk_alloc ?_ _)); exact BK523.out) hb); have n10_ := Aside0.mk (blk_below (g := gb537) (o := .cells #[.slice Ao39 t530.length co39, .slice Ao42 t533.length co42, .int .i64 t536] 35 (0, 0)) (by (with_reducible repeat (first | refine blk_drewN ?_ _ | refine blk_drew ?_ | refine blk_alloc ?_ _)); refine blk_put (cs := #[.slice Ao39 t530.length co39, .slice Ao42 t533.length co42, .int .i64 0]) ?_ 2 _ rfl; (with_reducible repeat (first | refine blk_drewN ?_ _ | refine blk_drew ?_ | refine blk_alloc ?_ _)); refine blk_put (cs := #[.slice Ao39 t530.length co39, .slice none 0 0, .int .i64 0]) ?_ 1 _ rfl; (with_reducible repeat (first | refine blk_drewN ?_ _ | refine blk_drew ?_ | refine blk_alloc ?_ _)); refine blk_put (cs := #[.slice none 0 0, .slice none 0 0, .int .i64 0]) ?_ 0 _ rfl; (with_reducible repeat (first | refine blk_drewN ?_ _ | refine blk_drew ?_ | refine blk_alloc ?_ _)); exact BK537.out) hb); have n11_ := Aside0.mk (below_step (by repeat (first | (with_reducible first | exact HB.out | apply below_alloc | apply pw_below_drewN | apply below_drew1 | refine below_set ?_ GE523.out | refine below_set ?_ GE537.out) | exact HB.out)) hb); clear HO515; clear HO518; clear HO521; clear HO527; clear HO529; clear HO532; clear HO535; clear BK523; clear BK537; clear HB; have HO515 := n0_; have HO518 := n1_; have HO521 := n2_; have HO527 := n3_; have HO529 := n4_; have HO532 := n5_; have HO535 := n6_; have HO543 := n7_; have HO545 := n8_; have BK523 := n9_; have BK537 := n10_; have HB := n11_; clear n0_ n1_ n2_ n3_ n4_ n5_ n6_ n7_ n8_ n9_ n10_ n11_; (try clear hb); (try clear hb2); (try clear hk); (try clear hi); (try clear ho0); (try clear ho1)) | ((with_reducible refine gate_callee (f := 33) rfl ?_); refine goesL_ (some 91) rfl rfl Try.func33 (by kernel_rfl) rfl #[.slice A2 l2.length c2] rfl (by (try simp only [List.map_toArray, List.map_cons, List.map_nil]); first | done | rfl | (simp only [List.length_drop, List.length_take]; rfl)) ?_; (with_reducible refine (plexuslaw46_made.calls kj5 _ _ l2 t546 t547 _ ?side1 ?side2 A25.out).mono ?_); (case side1 => repeat (first | exact (Kd.C_below HR2.out HB.out) | (with_reducible refine Kd.C_alloc ?_ _) | (with_reducible refine Kd.C_drewN ?_ _) | (with_reducible refine Kd.C_drew ?_))); (case side2 => exact HC2.out); rintro e w46 ⟨v548, v550, rfl, ho0, ho1, hb⟩; refine ⟨_, rfl, ?_⟩; have n0_ := Aside0.mk (Kd.R_elder' (by (with_reducible repeat (first | apply Kd.R_alloc | apply Kd.R_drewN | apply Kd.R_drew)); exact HO515.out) (Kd.R_base ho0) hb); have n1_ := Aside0.mk (Kd.S_elder' (by (with_reducible repeat (first | apply Kd.S_alloc | apply Kd.S_drewN | apply Kd.S_drew)); exact HO518.out) (Kd.R_base ho1) hb); have n2_ := Aside0.mk (Kd.R_elder' (by (with_reducible repeat (first | apply Kd.R_alloc | apply Kd.R_drewN | apply Kd.R_drew)); exact HO521.out) (Kd.R_base ho0) hb); have n3_ := Aside0.mk (Kd.R_elder' (by (with_reducible repeat (first | apply Kd.R_alloc | apply Kd.R_drewN | apply Kd.R_drew)); exact HO527.out) (Kd.R_base ho0) hb); have n4_ := Aside0.mk (Kd.R_elder' (by (with_reducible repeat (first | apply Kd.R_alloc | apply Kd.R_drewN | apply Kd.R_drew)); exact HO529.out) (Kd.R_base ho1) hb); have n5_ := Aside0.mk (Kd.S_elder' (by (with_reducible repeat (first | apply Kd.S_alloc | apply Kd.S_drewN | apply Kd.S_drew)); exact HO532.out) (Kd.R_base ho1) hb); have n6_ := Aside0.mk (Kd.R_elder' (by (with_reducible repeat (first | apply Kd.R_alloc | apply Kd.R_drewN | apply Kd.R_drew)); exact HO535.out) (Kd.R_base ho0) hb); have n7_ := Aside0.mk (Kd.R_elder' (by (with_reducible repeat (first | apply Kd.R_alloc | apply Kd.R_drewN | apply Kd.R_drew)); exact HO543.out) (Kd.R_base ho0) hb); have n8_ := Aside0.mk (Kd.R_elder' (by (with_reducible repeat (first | apply Kd.R_alloc | apply Kd.R_drewN | apply Kd.R_drew)); exact HO545.out) (Kd.R_base ho1) hb); have n9_ := Aside0.mk (Kd.R_lower (Kd.R_new' (Kd.R_new' (Kd.R_new' (Kd.R_new' (Kd.R_new' ho0 (Kd.R_lt (by (with_reducible repeat (first | apply Kd.R_alloc | apply Kd.R_drewN | apply Kd.R_drew)); exact HO515.out))) (Kd.R_lt (by (with_reducible repeat (first | apply Kd.R_alloc | apply Kd.R_drewN | apply Kd.R_drew)); exact HO521.out))) (Kd.R_lt (by (with_reducible repeat (first | apply Kd.R_alloc | apply Kd.R_drewN | apply Kd.R_drew)); exact HO527.out))) (Kd.R_lt (by (with_reducible repeat (first | apply Kd.R_alloc | apply Kd.R_drewN | apply Kd.R_drew)); exact HO535.out))) (Kd.R_lt (by (with_reducible repeat (first | apply Kd.R_alloc | apply Kd.R_drewN | apply Kd.R_drew)); exact HO543.out))) (below_size (by repeat (first | (with_reducible first | exact HB.out | apply below_alloc | apply pw_below_drewN | apply below_drew1 | refine below_set ?_ GE523.out | refine below_set ?_ GE537.out) | exact HB.out)))); have n10_ := Aside0.mk (Kd.R_lower (Kd.R_new' (Kd.R_new' ho1 (Kd.R_lt (by (with_reducible repeat (first | apply Kd.R_alloc | apply Kd.R_drewN | apply Kd.R_drew)); exact HO529.out))) (Kd.R_lt (by (with_reducible repeat (first | apply Kd.R_alloc | apply Kd.R_drewN | apply Kd.R_drew)); exact HO545.out))) (below_size (by repeat (first | (with_reducible first | exact HB.out | apply below_alloc | apply pw_below_drewN | apply below_drew1 | refine below_set ?_ GE523.out | refine below_set ?_ GE537.out) | exact HB.out)))); have n11_ := Aside0.mk (blk_below (g := gb523) (o := .cells #[.slice Ao33 t516.length co33, .slice Ao35 t519.length co35, .int .i64 t522] 35 (0, 0)) (by (with_reducible repeat (first | refine blk_drewN ?_ _ | refine blk_drew ?_ | refine blk_alloc ?_ _)); exact BK523.out) hb); have n12_ := Aside0.mk (blk_below (g := gb537) (o := .cells #[.slice Ao39 t530.length co39, .slice Ao42 t533.length co42, .int .i64 t536] 35 (0, 0)) (by (with_reducible repeat (first | refine blk_drewN ?_ _ | refine blk_drew ?_ | refine blk_alloc ?_ _)); exact BK537.out) hb); have n13_ := Aside0.mk (below_step (by repeat (first | (with_reducible first | exact HB.out | apply below_alloc | apply pw_below_drewN | apply below_drew1 | refine below_set ?_ GE523.out | refine below_set ?_ GE537.out) | exact HB.out)) hb); clear HO515; clear HO518; clear HO521; clear HO527; clear HO529; clear HO532; clear HO535; clear HO543; clear HO545; clear BK523; clear BK537; clear HB; have HO515 := n0_; have HO518 := n1_; have HO521 := n2_; have HO527 := n3_; have HO529 := n4_; have HO532 := n5_; have HO535 := n6_; have HO543 := n7_; have HO545 := n8_; have HO549 := n9_; have HO551 := n10_; have BK523 := n11_; have BK537 := n12_; have HB := n13_; clear n0_ n1_ n2_ n3_ n4_ n5_ n6_ n7_ n8_ n9_ n10_ n11_ n12_ n13_; (try clear hb); (try clear hb2); (try clear hk); (try clear hi); (try clear ho0); (try clear ho1); obtain ⟨Ao47, co47, eo47⟩ := Kd.R_slice HO543.out; subst eo47; obtain ⟨Ao48, co48, eo48⟩ := Kd.R_slice HO549.out; subst eo48) | ((with_reducible refine gate_callee (f := 30) rfl ?_); refine goesL_ (some 96) rfl rfl Try.func30 (by kernel_rfl) rfl #[.slice Ao47 t540.length co47, .slice Ao48 t546.length co48] rfl (by (try simp only [List.map_toArray, List.map_cons, List.map_nil]); first | done | rfl | (simp only [List.length_drop, List.length_take]; rfl)) ?_; (with_reducible refine (plexusref46_Same.calls _ _ t540 _ _ t546 t552 _ ?side1 ?side2 ?side3 ?side4 A26.out).mono ?_); (case side1 => repeat (first | exact (Kd.R_reads' HO543.out).2.2 | (with_reducible refine Kd.C_alloc ?_ _) | (with_reducible refine Kd.C_drewN ?_ _) | (with_reducible refine Kd.C_drew ?_))); (case side2 => exact (Kd.R_reads' HO543.out).2.1); (case side3 => repeat (first | exact (Kd.R_reads' HO549.out).2.2 | (with_reducible refine Kd.C_alloc ?_ _) | (with_reducible refine Kd.C_drewN ?_ _) | (with_reducible refine Kd.C_drew ?_))); (case side4 => exact (Kd.R_reads' HO549.out).2.1); rintro e w' ⟨rfl, ⟨nd, rfl⟩⟩; refine ⟨_, rfl, ?_⟩) | ((with_reducible refine gate_callee (f := 29) rfl ?_); refine goesL_ (some 99) rfl rfl Try.func29 (by kernel_rfl) rfl #[.slice A1 l1.length c1, .slice A2 l2.length c2] rfl (by (try simp only [List.map_toArray, List.map_cons, List.map_nil]); first | done | rfl | (simp only [List.length_drop, List.length_take]; rfl)) ?_; (with_reducible refine (plexusref46_Records.calls kj5 _ _ l1 _ _ l2 t553 _ ?side1 ?side2 ?side3 ?side4 A27.out).mono ?_); (case side1 => repeat (first | exact (Kd.C_below HR1.out (by repeat (first | (with_reducible first | exact HB.out | apply below_alloc | apply pw_below_drewN | apply below_drew1 | refine below_set ?_ GE523.out | refine below_set ?_ GE537.out) | exact HB.out))) | (with_reducible refine Kd.C_alloc ?_ _) | (with_reducible refine Kd.C_drewN ?_ _) | (with_reducible refine Kd.C_drew ?_))); (case side2 => exact HC1.out); (case side3 => repeat (first | exact (Kd.C_below HR2.out (by repeat (first | (with_reducible first | exact HB.out | apply below_alloc | apply pw_below_drewN | apply below_drew1 | refine below_set ?_ GE523.out | refine below_set ?_ GE537.out) | exact HB.out))) | (with_reducible refine Kd.C_alloc ?_ _) | (with_reducible refine Kd.C_drewN ?_ _) | (with_reducible refine Kd.C_drew ?_))); (case side4 => exact HC2.out); rintro e w' ⟨rfl, ⟨nd, rfl⟩⟩; refine ⟨_, rfl, ?_⟩))
                      go_ret
                      exact ⟨by first | rfl | (simp [errW_none, errW_some] <;> rfl) | (simp [*, errW_none, errW_some] <;> rfl), by repeat (first | (with_reducible first | exact HB.out | apply below_alloc | apply pw_below_drewN | apply below_drew1 | refine below_set ?_ GE523.out | refine below_set ?_ GE537.out) | exact HB.out)⟩
                    · rw [if_neg c28] at H
                      exact absurd H (by simp)
                · rw [if_neg c22] at H
                  exact absurd H (by simp)
              · replace c21 := Bool.eq_false_iff.mpr c21
                subst c21
                have H1 : (none) = some r := by rw [if_neg (show ¬ (false = true) by decide)] at H; exact H
                clear H
                have H := H1
                clear H1
                exact absurd H (by simp)
            · replace c19 := Bool.eq_false_iff.mpr c19
              subst c19
              have H1 : (none) = some r := by rw [if_neg (show ¬ (false = true) by decide)] at H; exact H
              clear H
              have H := H1
              clear H1
              exact absurd H (by simp)
          · rw [if_neg c17] at H
            exact absurd H (by simp)
  · replace c5 := Bool.eq_false_iff.mpr c5
    subst c5
    have H1 : (none) = some r := by rw [if_neg (show ¬ (false = true) by decide)] at H; exact H
    clear H
    have H := H1
    clear H1
    exact absurd H (by simp)

/-- THE ONE PURE STATEMENT of plexuslaw46_JournalForm. -/
def plexuslaw46_JournalForm.Pure : Prop := ∀ (l0 : List Int) (l1 : List (List Int)) (l2 : List (List Int)), (l0.length * 1 ≤ 140737488351232 ∧ l0.length ≤ maxLen ∧ ∀ x_ ∈ l0, (Lit.int .u8 x_).wf = true) → (l1.length * 24 ≤ 140737488351232 ∧ l1.length ≤ maxLen ∧ ∀ x_ ∈ l1, (x_.length * 8 ≤ 140737488351232 ∧ x_.length ≤ maxLen ∧ ∀ y_ ∈ x_, (Lit.int .i64 y_).wf = true)) → (l2.length * 24 ≤ 140737488351232 ∧ l2.length ≤ maxLen ∧ ∀ x_ ∈ l2, (x_.length * 8 ≤ 140737488351232 ∧ x_.length ≤ maxLen ∧ ∀ y_ ∈ x_, (Lit.int .i64 y_).wf = true)) → ∃ k, plexuslaw46_JournalForm.f k l0 l1 l2 = some true
theorem plexuslaw46_JournalForm.walk (P : plexuslaw46_JournalForm.Pure) (w : World) (A0 : Option Addr) (c0 : Nat) (l0 : List Int) (hr0 : Kd.C (Kd.int .u8) w A0 l0.length l0) (hc0 : l0.length ≤ c0) (w0 : (l0.length * 1 ≤ 140737488351232 ∧ l0.length ≤ maxLen ∧ ∀ x_ ∈ l0, (Lit.int .u8 x_).wf = true)) (A1 : Option Addr) (c1 : Nat) (l1 : List (List Int)) (hr1 : Kd.C (Kd.slice 3 (Kd.int .i64)) w A1 l1.length l1) (hc1 : l1.length ≤ c1) (w1 : (l1.length * 24 ≤ 140737488351232 ∧ l1.length ≤ maxLen ∧ ∀ x_ ∈ l1, (x_.length * 8 ≤ 140737488351232 ∧ x_.length ≤ maxLen ∧ ∀ y_ ∈ x_, (Lit.int .i64 y_).wf = true))) (A2 : Option Addr) (c2 : Nat) (l2 : List (List Int)) (hr2 : Kd.C (Kd.slice 3 (Kd.int .i64)) w A2 l2.length l2) (hc2 : l2.length ≤ c2) (w2 : (l2.length * 24 ≤ 140737488351232 ∧ l2.length ≤ maxLen ∧ ∀ x_ ∈ l2, (x_.length * 8 ≤ 140737488351232 ∧ x_.length ≤ maxLen ∧ ∀ y_ ∈ x_, (Lit.int .i64 y_).wf = true))) :
    Calls Try.prog 8 #[.slice A0 l0.length c0, .slice A1 l1.length c1, .slice A2 l2.length c2] w fun e w' => e = .returned (.bool true) ∧ Below w.heap.size w w' := by
  obtain ⟨k, h⟩ := P l0 l1 l2 w0 w1 w2
  refine (plexuslaw46_JournalForm.calls k A0 c0 l0 A1 c1 l1 A2 c2 l2 true w hr0 hc0 hr1 hc1 hr2 hc2 h).mono ?_
  rintro e w' ⟨rfl, hd⟩
  exact ⟨rfl, hd⟩

/-! ### plexuslaw46_JournalRefuses: function 9 -/
mutual
def plexuslaw46_JournalRefuses.l0 : Nat → Int → Int → Bool → List Int → List Int → Int → Option (Bool)
  | 0, _, _, _, _, _, _ => none
  | k + 1, x1, x2, x7, x8, x10, x11 => if x11 < (wrap64 (Int.tmod x1 200)) then (if x10.length < 17592186044416 then (plexuslaw46_JournalRefuses.l0 k x1 x2 x7 x8 (x10 ++ [wrap64 ((wrap64 (x11 * x11)) - 50)]) (wrap64 (x11 + 1))) else (none)) else ((journal_Put.f k x8 x10).bind fun bt568 => (if ((bt568.2 == 0) != (decide ((x10.length : Int) ≤ 64))) = true then (none) else (if bt568.2 = 0 then (plexuslaw46_JournalRefuses.j1 k x2 x7 x8 x10 ((bt568.1.length : Int) != (wrap64 ((wrap64 ((x8.length : Int) + 24)) + (wrap64 (8 * (x10.length : Int))))))) else (if bt568.2 = 1 then (if (bt568.1.length : Int) > 0 then (none) else (plexuslaw46_JournalRefuses.j1 k x2 x7 x8 x10 false)) else (none)))))
def plexuslaw46_JournalRefuses.j1 : Nat → Int → Bool → List Int → List Int → Bool → Option (Bool)
  | 0, _, _, _, _, _ => none
  | k + 1, x2, x7, x8, x10, x84 => if x84 = true then (none) else (if (x8.length : Int) = 0 then (some x7) else (if 0 ≤ (wrap64 ((wrap64 ((x8.length : Int) - 1)) - (Int.tmod (wrap64 (x2)) 23))) then (if (wrap64 ((wrap64 ((x8.length : Int) - 1)) - (Int.tmod (wrap64 (x2)) 23))) ≤ (x8.length : Int) then ((journal_Put.f k (x8.take ((wrap64 ((wrap64 ((x8.length : Int) - 1)) - (Int.tmod (wrap64 (x2)) 23))) : Int).toNat) x10).bind fun bt576 => (if (x10.length : Int) > 64 then (if bt576.2 = 1 then (some x7) else (none)) else (if bt576.2 = 460 then (some x7) else (none)))) else (none)) else (none)))
end
def plexuslaw46_JournalRefuses.f (k : Nat) (l0 : List (List Int)) (a1 : Int) (a2 : Int) : Option (Bool) := (plexuslaw46_examples.f k).bind fun t554 => (if t554 = true then ((plexusref46_Small.f k l0).bind fun t555 => (if t555 = true then ((plexuslaw46_made.f k l0).bind fun bt556 => (plexuslaw46_JournalRefuses.l0 k a1 a2 t554 bt556.1 (([] : List Int)) 0)) else (some t554))) else (none))
theorem plexuslaw46_JournalRefuses.mono_l : ∀ k, (∀ y0 y1 y2 y3 y4 y5, LeO (plexuslaw46_JournalRefuses.l0 k y0 y1 y2 y3 y4 y5) (plexuslaw46_JournalRefuses.l0 (k + 1) y0 y1 y2 y3 y4 y5)) ∧ (∀ y0 y1 y2 y3 y4, LeO (plexuslaw46_JournalRefuses.j1 k y0 y1 y2 y3 y4) (plexuslaw46_JournalRefuses.j1 (k + 1) y0 y1 y2 y3 y4))
  | 0 => ⟨fun _ _ _ _ _ _ r h => by simp [plexuslaw46_JournalRefuses.l0] at h, fun _ _ _ _ _ r h => by simp [plexuslaw46_JournalRefuses.j1] at h⟩
  | k + 1 => by
    obtain ⟨ih0, ih1⟩ := plexuslaw46_JournalRefuses.mono_l k
    refine ⟨?_, ?_⟩
    · intro y0 y1 y2 y3 y4 y5
      unfold plexuslaw46_JournalRefuses.l0
      repeat' first
      | (with_reducible exact ih0 _ _ _ _ _ _)
      | (with_reducible exact ih1 _ _ _ _ _)
      | (with_reducible exact journal_Put.mono _ _ _)
      | (with_reducible exact plexuslaw46_examples.mono _)
      | (with_reducible exact plexuslaw46_made.mono _ _)
      | (with_reducible exact plexusref46_Small.mono _ _)
      | (with_reducible exact LeO.refl _)
      | (with_reducible exact LeO.none _)
      | (with_reducible refine LeO.ite ?_ ?_)
      | (with_reducible refine LeO.bind ?_ (fun _ => ?_))
      | exact ih0 _ _ _ _ _ _
      | exact ih1 _ _ _ _ _
      | exact journal_Put.mono _ _ _
      | exact plexuslaw46_examples.mono _
      | exact plexuslaw46_made.mono _ _
      | exact plexusref46_Small.mono _ _
      | exact LeO.none _
      | refine LeO.ite ?_ ?_
      | refine LeO.bind ?_ (fun _ => ?_)
    · intro y0 y1 y2 y3 y4
      unfold plexuslaw46_JournalRefuses.j1
      repeat' first
      | (with_reducible exact ih0 _ _ _ _ _ _)
      | (with_reducible exact ih1 _ _ _ _ _)
      | (with_reducible exact journal_Put.mono _ _ _)
      | (with_reducible exact plexuslaw46_examples.mono _)
      | (with_reducible exact plexuslaw46_made.mono _ _)
      | (with_reducible exact plexusref46_Small.mono _ _)
      | (with_reducible exact LeO.refl _)
      | (with_reducible exact LeO.none _)
      | (with_reducible refine LeO.ite ?_ ?_)
      | (with_reducible refine LeO.bind ?_ (fun _ => ?_))
      | exact ih0 _ _ _ _ _ _
      | exact ih1 _ _ _ _ _
      | exact journal_Put.mono _ _ _
      | exact plexuslaw46_examples.mono _
      | exact plexuslaw46_made.mono _ _
      | exact plexusref46_Small.mono _ _
      | exact LeO.none _
      | refine LeO.ite ?_ ?_
      | refine LeO.bind ?_ (fun _ => ?_)
theorem plexuslaw46_JournalRefuses.mono : ∀ a0 a1 a2 k, LeO (plexuslaw46_JournalRefuses.f k a0 a1 a2) (plexuslaw46_JournalRefuses.f (k + 1) a0 a1 a2) := by
  intro a0 a1 a2 k
  obtain ⟨ih0, ih1⟩ := plexuslaw46_JournalRefuses.mono_l k
  unfold plexuslaw46_JournalRefuses.f
  repeat' first
      | (with_reducible exact ih0 _ _ _ _ _ _)
      | (with_reducible exact ih1 _ _ _ _ _)
      | (with_reducible exact journal_Put.mono _ _ _)
      | (with_reducible exact plexuslaw46_examples.mono _)
      | (with_reducible exact plexuslaw46_made.mono _ _)
      | (with_reducible exact plexusref46_Small.mono _ _)
      | (with_reducible exact LeO.refl _)
      | (with_reducible exact LeO.none _)
      | (with_reducible refine LeO.ite ?_ ?_)
      | (with_reducible refine LeO.bind ?_ (fun _ => ?_))
      | exact ih0 _ _ _ _ _ _
      | exact ih1 _ _ _ _ _
      | exact journal_Put.mono _ _ _
      | exact plexuslaw46_examples.mono _
      | exact plexuslaw46_made.mono _ _
      | exact plexusref46_Small.mono _ _
      | exact LeO.none _
      | refine LeO.ite ?_ ?_
      | refine LeO.bind ?_ (fun _ => ?_)
set_option maxHeartbeats 8000000 in
set_option maxRecDepth 100000 in
theorem plexuslaw46_JournalRefuses.calls (k : Nat) (A0 : Option Addr) (c0 : Nat) (l0 : List (List Int)) (a1 : Int) (a2 : Int) (r : Bool) (w : World) (hr0 : Kd.C (Kd.slice 3 (Kd.int .i64)) w A0 l0.length l0) (hc0 : l0.length ≤ c0) (h : plexuslaw46_JournalRefuses.f k l0 a1 a2 = some r) :
    Calls Try.prog 9 #[.slice A0 l0.length c0, .int .u8 a1, .int .u16 a2] w fun e w' => e = .returned (.bool r) ∧ Below w.heap.size w w' := by
  have HR0 := Aside0.mk hr0
  have HC0 := Aside0.mk hc0
  clear hr0 hc0
  have HB := Aside0.mk (Below.refl w.heap.size w)
  have H : ((plexuslaw46_examples.f k).bind fun t554 => (if t554 = true then ((plexusref46_Small.f k l0).bind fun t555 => (if t555 = true then ((plexuslaw46_made.f k l0).bind fun bt556 => (plexuslaw46_JournalRefuses.l0 k a1 a2 t554 bt556.1 (([] : List Int)) 0)) else (some t554))) else (none))) = some r := h
  clear h
  replace H := Option.bind_eq_some_iff.mp H
  obtain ⟨t554, A40, H⟩ := H
  replace H : (if t554 = true then ((plexusref46_Small.f k l0).bind fun t555 => (if t555 = true then ((plexuslaw46_made.f k l0).bind fun bt556 => (plexuslaw46_JournalRefuses.l0 k a1 a2 t554 bt556.1 (([] : List Int)) 0)) else (some t554))) else (none)) = some r := H
  have A4 := Aside0.mk A40
  clear A40
  by_cases c5 : t554 = true
  · subst c5
    have H1 : ((plexusref46_Small.f k l0).bind fun t555 => (if t555 = true then ((plexuslaw46_made.f k l0).bind fun bt556 => (plexuslaw46_JournalRefuses.l0 k a1 a2 true bt556.1 (([] : List Int)) 0)) else (some true))) = some r := by rw [if_pos rfl] at H; exact H
    clear H
    have H := H1
    clear H1
    replace H := Option.bind_eq_some_iff.mp H
    obtain ⟨t555, A60, H⟩ := H
    replace H : (if t555 = true then ((plexuslaw46_made.f k l0).bind fun bt556 => (plexuslaw46_JournalRefuses.l0 k a1 a2 true bt556.1 (([] : List Int)) 0)) else (some true)) = some r := H
    have A6 := Aside0.mk A60
    clear A60
    by_cases c7 : t555 = true
    · subst c7
      have H1 : ((plexuslaw46_made.f k l0).bind fun bt556 => (plexuslaw46_JournalRefuses.l0 k a1 a2 true bt556.1 (([] : List Int)) 0)) = some r := by rw [if_pos rfl] at H; exact H
      clear H
      have H := H1
      clear H1
      replace H := Option.bind_eq_some_iff.mp H
      obtain ⟨⟨t556, t557⟩, A80, H⟩ := H
      replace H : (plexuslaw46_JournalRefuses.l0 k a1 a2 true t556 (([] : List Int)) 0) = some r := H
      have A8 := Aside0.mk A80
      clear A80
      obtain ⟨y562, hy562⟩ : ∃ y_ : List Int, y_ = (([] : List Int)) := ⟨_, rfl⟩
      replace H : (plexuslaw46_JournalRefuses.l0 k a1 a2 true t556 y562 0) = some r := by first | (rw [hy562]; with_reducible exact H) | (have H2_ := (Option.bind_some _ _).symm.trans H; rw [hy562]; with_reducible exact H2_) | (have H2_ := (Option.bind_some _ _).symm.trans H; with_reducible exact H2_) | with_reducible exact H | (rw [hy562]; exact H) | exact H
      have Ny562 := Aside0.mk hy562
      clear hy562
      have H' := Aside0.mk H
      clear H
      go_enter Try.func9, Try.ntmps9
      go_wp2_with (first | ((with_reducible refine gate_callee (f := 22) rfl ?_); refine goesL_ (some 17) rfl rfl Try.func22 (by kernel_rfl) rfl #[] rfl (by (try simp only [List.map_toArray, List.map_cons, List.map_nil]); first | done | rfl | (simp only [List.length_drop, List.length_take]; rfl)) ?_; (with_reducible refine (plexuslaw46_examples.calls k  true _ A4.out).mono ?_); rintro e w9 ⟨rfl, hb⟩; refine ⟨_, rfl, ?_⟩; have n0_ := Aside0.mk (below_step (by repeat (first | (with_reducible first | exact HB.out | apply below_alloc | apply pw_below_drewN | apply below_drew1) | exact HB.out)) hb); clear HB; have HB := n0_; clear n0_; (try clear hb); (try clear hb2); (try clear hk); (try clear hi)) | ((with_reducible refine gate_callee (f := 23) rfl ?_); refine goesL_ (some 21) rfl rfl Try.func23 (by kernel_rfl) rfl #[.slice A0 l0.length c0] rfl (by (try simp only [List.map_toArray, List.map_cons, List.map_nil]); first | done | rfl | (simp only [List.length_drop, List.length_take]; rfl)) ?_; (with_reducible refine (plexusref46_Small.calls k _ _ l0 true _ ?side1 ?side2 A6.out).mono ?_); (case side1 => repeat (first | exact (Kd.C_below HR0.out HB.out) | (with_reducible refine Kd.C_alloc ?_ _) | (with_reducible refine Kd.C_drewN ?_ _) | (with_reducible refine Kd.C_drew ?_))); (case side2 => exact HC0.out); rintro e w' ⟨rfl, ⟨nd, rfl⟩⟩; refine ⟨_, rfl, ?_⟩) | ((with_reducible refine gate_callee (f := 33) rfl ?_); refine goesL_ (some 26) rfl rfl Try.func33 (by kernel_rfl) rfl #[.slice A0 l0.length c0] rfl (by (try simp only [List.map_toArray, List.map_cons, List.map_nil]); first | done | rfl | (simp only [List.length_drop, List.length_take]; rfl)) ?_; (with_reducible refine (plexuslaw46_made.calls k _ _ l0 t556 t557 _ ?side1 ?side2 A8.out).mono ?_); (case side1 => repeat (first | exact (Kd.C_below HR0.out (by repeat (first | (with_reducible first | exact HB.out | apply below_alloc | apply pw_below_drewN | apply below_drew1) | exact HB.out))) | (with_reducible refine Kd.C_alloc ?_ _) | (with_reducible refine Kd.C_drewN ?_ _) | (with_reducible refine Kd.C_drew ?_))); (case side2 => exact HC0.out); rintro e w10 ⟨v558, v560, rfl, ho0, ho1, hb⟩; refine ⟨_, rfl, ?_⟩; have n0_ := Aside0.mk (Kd.R_lower ho0 (below_size (by repeat (first | (with_reducible first | exact HB.out | apply below_alloc | apply pw_below_drewN | apply below_drew1) | exact HB.out)))); have n1_ := Aside0.mk (Kd.R_lower ho1 (below_size (by repeat (first | (with_reducible first | exact HB.out | apply below_alloc | apply pw_below_drewN | apply below_drew1) | exact HB.out)))); have n2_ := Aside0.mk (below_step (by repeat (first | (with_reducible first | exact HB.out | apply below_alloc | apply pw_below_drewN | apply below_drew1) | exact HB.out)) hb); clear HB; have HO559 := n0_; have HO561 := n1_; have HB := n2_; clear n0_ n1_ n2_; (try clear hb); (try clear hb2); (try clear hk); (try clear hi); (try clear ho0); (try clear ho1)) | ((with_reducible refine gate_dst (N := 29) rfl ?_); (try (refine gate_guard (by rfl) ?_; dsimp only)); refine Kd.R_lit (Kd.int .i64) _ 3 ?hg (N := 29) ?hd (xs := ([] : List Int)) (inner := []) (ok := fun _ => True) (okp := fun _ => True) ?hr ?hp (fun _ hk => hk) trivial (Below.refl _ _) (Nat.le_refl _) (by simp) ?_; (case hd => rfl); (case hg => rfl); (case hr => first | (go_simp; done) | (go_simp; rfl)); (case hp => exact (Reps.none _ _)); intro v563 w11 ho12 hb hg_ hnew_; clear hg_ hnew_; (first | rw [← Ny562.out] at ho12 | (simp only [Int.reduceToNat] at ho12; rw [← Ny562.out] at ho12)); have n0_ := Aside0.mk (Kd.R_below (by (with_reducible repeat (first | apply Kd.R_alloc | apply Kd.R_drewN | apply Kd.R_drew)); exact HO559.out) hb); have n1_ := Aside0.mk (Kd.R_elder' (by (with_reducible repeat (first | apply Kd.R_alloc | apply Kd.R_drewN | apply Kd.R_drew)); exact HO561.out) (Kd.R_base ho12) hb); have n2_ := Aside0.mk (Kd.R_lower (Kd.R_new' ho12 (Kd.R_lt (by (with_reducible repeat (first | apply Kd.R_alloc | apply Kd.R_drewN | apply Kd.R_drew)); exact HO561.out))) (below_size (by repeat (first | (with_reducible first | exact HB.out | apply below_alloc | apply pw_below_drewN | apply below_drew1) | exact HB.out)))); have n3_ := Aside0.mk (below_step (by repeat (first | (with_reducible first | exact HB.out | apply below_alloc | apply pw_below_drewN | apply below_drew1) | exact HB.out)) hb); clear HO559; clear HO561; clear HB; have HO559 := n0_; have HO561 := n1_; have HO564 := n2_; have HB := n3_; clear n0_ n1_ n2_ n3_; clear hb ho12))
      go_loopg [10, 11] k (fun kq v10 v11 w' => ∃ (x10_1 : List Int) (x11_1 : Int), v11 = .int .i64 x11_1 ∧ Aside0 (plexuslaw46_JournalRefuses.l0 kq a1 a2 true t556 x10_1 x11_1 = some r) ∧ Aside0 (kq ≤ k) ∧ Aside0 (Kd.R (Kd.int .u8) 5 w' w.heap.size (fun _ => True) v558 t556) ∧ Aside0 (Kd.R (Kd.int .i64) 3 w' w.heap.size (fun _ => True) v10 x10_1) ∧ Aside0 (Below w.heap.size w w'))
      case atStart => exact ⟨(y562), (0), (by first | rfl | (simp; done) | (congr 2; (try unfold wrap64); omega) | (simp [*]; done)), H', ⟨Nat.le_refl _⟩, ⟨by (with_reducible repeat (first | apply Kd.R_alloc | apply Kd.R_drewN | apply Kd.R_drew)); exact HO559.out⟩, ⟨by (with_reducible repeat (first | apply Kd.R_alloc | apply Kd.R_drewN | apply Kd.R_drew)); exact Kd.R_mono HO564.out (fun _ hk => trivial)⟩, ⟨by repeat (first | (with_reducible first | exact HB.out | apply below_alloc | apply pw_below_drewN | apply below_drew1) | exact HB.out)⟩⟩
      case round =>
        clear H'
        try clear c2
        try clear p2
        try clear c3
        try clear c5
        try clear c7
        try clear c9
        obtain ⟨x10_1, x11_1, rfl, HA, HK1, HO_8, HO_10, HB⟩ := hrel
        cases gk with
        | zero => exact absurd HA.out (by simp [plexuslaw46_JournalRefuses.l0])
        | succ k1 =>
          have H := HA.out
          clear HA
          simp only [plexuslaw46_JournalRefuses.l0] at H
          by_cases c13 : x11_1 < (wrap64 (Int.tmod a1 200))
          · rw [if_pos c13] at H
            have c13b0 : decide (x11_1 < (wrap64 (Int.tmod a1 200))) = true := decide_eq_true c13
            clear c13
            by_cases c14 : x10_1.length < 17592186044416
            · rw [if_pos c14] at H
              have LMc14 := Aside0.mk c14
              clear c14
              obtain ⟨y565, hy565⟩ : ∃ y_ : List Int, y_ = (x10_1 ++ [wrap64 ((wrap64 (x11_1 * x11_1)) - 50)]) := ⟨_, rfl⟩
              replace H : (plexuslaw46_JournalRefuses.l0 k1 a1 a2 true t556 y565 (wrap64 (x11_1 + 1))) = some r := by first | (rw [hy565]; with_reducible exact H) | (have H2_ := (Option.bind_some _ _).symm.trans H; rw [hy565]; with_reducible exact H2_) | (have H2_ := (Option.bind_some _ _).symm.trans H; with_reducible exact H2_) | with_reducible exact H | (rw [hy565]; exact H) | exact H
              have Ny565 := Aside0.mk hy565
              clear hy565
              have H' := Aside0.mk H
              clear H
              go_wp2_with (first | ((with_reducible refine gate_builtin (b := .append) (xs := #[.tmp 37, .tmp 42]) rfl ?_); (try (refine gate_guard (by rfl) ?_; dsimp only)); at_builtin; refine Kd.R_append (Kd.int .i64) (w0 := w) w.heap.size rfl (.tmp 37) (.tmp 42) 29 3 (.int .i64 0) 8 rfl Try.underlying29 info3 rfl (by decide) (by omega) u10 x10_1 (wrap64 ((wrap64 (x11_1 * x11_1)) - 50)) [.int .i64 (wrap64 ((wrap64 (x11_1 * x11_1)) - 50))] (fun _ => True) (fun _ => False) rfl rfl ?aP (fun _ hk => hk.elim) ?aF ?aO ?aB ?aS ?aL ?_; (case aP => exact rfl); (case aB => exact (by repeat (first | (with_reducible first | exact HB.out | apply below_alloc | apply pw_below_drewN | apply below_drew1) | exact HB.out))); (case aF => exact (fun _ _ => trivial)); (case aO => exact (by (with_reducible repeat (first | apply Kd.R_alloc | apply Kd.R_drewN | apply Kd.R_drew)); exact HO_10.out)); (case aS => exact (below_size (by repeat (first | (with_reducible first | exact HB.out | apply below_alloc | apply pw_below_drewN | apply below_drew1) | exact HB.out)))); (case aL => have := LMc14.out; omega); intro v566 w15 ho hb hg hat; rw [← Ny565.out] at ho; have n0_ := Aside0.mk (Kd.R_over' (by (with_reducible repeat (first | apply Kd.R_alloc | apply Kd.R_drewN | apply Kd.R_drew)); exact HO_8.out) (Kd.R_typed (by (with_reducible repeat (first | apply Kd.R_alloc | apply Kd.R_drewN | apply Kd.R_drew)); exact HO_10.out)) (by decide) hg); have n1_ := Aside0.mk (hb); have n2_ := Aside0.mk (ho); clear HO_8; clear HB; clear HO_10; have HO_8 := n0_; have HB := n1_; have HO567 := n2_; clear n0_ n1_ n2_; clear ho hb hg hat))
              go_roundg k1
              case measure => have := HK1.out; omega
              case rel => exact ⟨(y565), (wrap64 (x11_1 + 1)), (by first | rfl | (simp; done) | (congr 2; (try unfold wrap64); omega) | (simp [*]; done)), H', ⟨by have := HK1.out; omega⟩, ⟨by (with_reducible repeat (first | apply Kd.R_alloc | apply Kd.R_drewN | apply Kd.R_drew)); exact HO_8.out⟩, ⟨by (with_reducible repeat (first | apply Kd.R_alloc | apply Kd.R_drewN | apply Kd.R_drew)); exact HO567.out⟩, ⟨by repeat (first | (with_reducible first | exact HB.out | apply below_alloc | apply pw_below_drewN | apply below_drew1) | exact HB.out)⟩⟩
            · rw [if_neg c14] at H
              exact absurd H (by simp)
          · rw [if_neg c13] at H
            have c13b0 : decide (x11_1 < (wrap64 (Int.tmod a1 200))) = false := decide_eq_false c13
            clear c13
            replace H := Option.bind_eq_some_iff.mp H
            obtain ⟨⟨t568, t569⟩, A160, H⟩ := H
            replace H : (if ((t569 == 0) != (decide ((x10_1.length : Int) ≤ 64))) = true then (none) else (if t569 = 0 then (plexuslaw46_JournalRefuses.j1 k1 a2 true t556 x10_1 ((t568.length : Int) != (wrap64 ((wrap64 ((t556.length : Int) + 24)) + (wrap64 (8 * (x10_1.length : Int))))))) else (if t569 = 1 then (if (t568.length : Int) > 0 then (none) else (plexuslaw46_JournalRefuses.j1 k1 a2 true t556 x10_1 false)) else (none)))) = some r := H
            have A16 := Aside0.mk A160
            clear A160
            have HC17 := Aside0.mk H
            clear H
            obtain ⟨Ao18, co18, eo18⟩ := Kd.R_slice HO_8.out
            subst eo18
            obtain ⟨Ao19, co19, eo19⟩ := Kd.R_slice HO_10.out
            subst eo19
            go_upto_region 13 with (first | ((with_reducible refine gate_callee (f := 27) rfl ?_); refine goesL_ (some 47) rfl rfl Try.func27 (by kernel_rfl) rfl #[.slice Ao18 t556.length co18, .slice Ao19 x10_1.length co19] rfl (by (try simp only [List.map_toArray, List.map_cons, List.map_nil]); first | done | rfl | (simp only [List.length_drop, List.length_take]; rfl)) ?_; (with_reducible refine (journal_Put.calls k1 _ _ t556 _ _ x10_1 t568 t569 _ ?side1 ?side2 ?side3 ?side4 A16.out).mono ?_); (case side1 => repeat (first | exact (Kd.R_reads' HO_8.out).2.2 | (with_reducible refine Kd.C_alloc ?_ _) | (with_reducible refine Kd.C_drewN ?_ _) | (with_reducible refine Kd.C_drew ?_))); (case side2 => exact (Kd.R_reads' HO_8.out).2.1); (case side3 => repeat (first | exact (Kd.R_reads' HO_10.out).2.2 | (with_reducible refine Kd.C_alloc ?_ _) | (with_reducible refine Kd.C_drewN ?_ _) | (with_reducible refine Kd.C_drew ?_))); (case side4 => exact (Kd.R_reads' HO_10.out).2.1); rintro e w20 ⟨v570, rfl, ho0, hb⟩; refine ⟨_, rfl, ?_⟩; have n0_ := Aside0.mk (Kd.R_elder' (by (with_reducible repeat (first | apply Kd.R_alloc | apply Kd.R_drewN | apply Kd.R_drew)); exact HO_8.out) (Kd.R_base ho0) hb); have n1_ := Aside0.mk (Kd.R_below (by (with_reducible repeat (first | apply Kd.R_alloc | apply Kd.R_drewN | apply Kd.R_drew)); exact HO_10.out) hb); have n2_ := Aside0.mk (Kd.R_lower (Kd.R_new' ho0 (Kd.R_lt (by (with_reducible repeat (first | apply Kd.R_alloc | apply Kd.R_drewN | apply Kd.R_drew)); exact HO_8.out))) (below_size (by repeat (first | (with_reducible first | exact HB.out | apply below_alloc | apply pw_below_drewN | apply below_drew1) | exact HB.out)))); have n3_ := Aside0.mk (below_step (by repeat (first | (with_reducible first | exact HB.out | apply below_alloc | apply pw_below_drewN | apply below_drew1) | exact HB.out)) hb); clear HO_8; clear HO_10; clear HB; have HO_8 := n0_; have HO_10 := n1_; have HO571 := n2_; have HB := n3_; clear n0_ n1_ n2_ n3_; (try clear hb); (try clear hb2); (try clear hk); (try clear hi); (try clear ho0)))
            (try simp only [Act.put, List.setIfInBounds_toArray, List.set_cons_zero, List.set_cons_succ])
            go_cut [84] (fun v84 wc => ∃ (kq : Nat) (x84_16 : Bool), v84 = .bool x84_16 ∧ Aside0 (plexuslaw46_JournalRefuses.j1 kq a2 true t556 x10_1 x84_16 = some r) ∧ Aside0 (kq ≤ k1) ∧ Aside0 (Kd.R (Kd.int .u8) 5 wc w.heap.size (fun _ => True) (.slice Ao18 t556.length co18) t556) ∧ Aside0 (Kd.R (Kd.int .i64) 3 wc w.heap.size (fun _ => True) (.slice Ao19 x10_1.length co19) x10_1) ∧ Aside0 (Below w.heap.size w wc))
            case first =>
              have H := HC17.out
              clear HC17
              by_cases c21 : ((t569 == 0) != (decide ((x10_1.length : Int) ≤ 64))) = true
              · rw [if_pos c21] at H
                exact absurd H (by simp)
              · rw [if_neg c21] at H
                have c21b0 : ((t569 == 0) != (decide ((x10_1.length : Int) ≤ 64))) = false := by simpa using c21
                (try (have c21b1 : decide ((t569 == 0) = (decide ((x10_1.length : Int) ≤ 64))) = true := by simpa using c21))
                (try (have c21b2 : ((t569 == 0) == (decide ((x10_1.length : Int) ≤ 64))) = true := by simpa using c21))
                clear c21
                (first | rw [c21b0] | (simp only [i64_w, i32_w]; rw [c21b0]) | rw [c21b1] | skip)
                by_cases c22 : t569 = 0
                · rw [if_pos c22] at H
                  have c22b0 : (t569 == 0) = true := beq_iff_eq.mpr c22
                  have c22b1 : (t569 != 0) = false := bne_eq_false_iff_eq.mpr c22
                  clear c22
                  have H' := Aside0.mk H
                  clear H
                  obtain ⟨Ao23, co23, eo23⟩ := Kd.R_slice HO571.out
                  subst eo23
                  go_wp2
                  all_goals go_meet
                  all_goals (first | (exfalso; simp [c22b0] at c21b0; omega) | exact ⟨_, (((t568.length : Int) != (wrap64 ((wrap64 ((t556.length : Int) + 24)) + (wrap64 (8 * (x10_1.length : Int))))))), (by first | rfl | (simp; done) | (congr 2; (try unfold wrap64); omega) | (simp [*]; done)), H', ⟨by have := HK1.out; first | omega | exact Nat.le_refl _⟩, ⟨by (with_reducible repeat (first | apply Kd.R_alloc | apply Kd.R_drewN | apply Kd.R_drew)); exact Kd.R_mono HO_8.out (fun _ hk => trivial)⟩, ⟨by (with_reducible repeat (first | apply Kd.R_alloc | apply Kd.R_drewN | apply Kd.R_drew)); exact HO_10.out⟩, ⟨by repeat (first | (with_reducible first | exact HB.out | apply below_alloc | apply pw_below_drewN | apply below_drew1) | exact HB.out)⟩⟩)
                · rw [if_neg c22] at H
                  have c22b0 : (t569 == 0) = false := beq_eq_false_iff_ne.mpr c22
                  have c22b1 : (t569 != 0) = true := bne_iff_ne.mpr c22
                  by_cases c24 : t569 = 1
                  · rw [if_pos c24] at H
                    have c24b0 : (t569 == 1) = true := beq_iff_eq.mpr c24
                    have c24b1 : (t569 != 1) = false := bne_eq_false_iff_eq.mpr c24
                    clear c24
                    by_cases c25 : (t568.length : Int) > 0
                    · rw [if_pos c25] at H
                      exact absurd H (by simp)
                    · rw [if_neg c25] at H
                      have c25b0 : decide (0 < (t568.length : Int)) = false := decide_eq_false c25
                      have c25b1 : decide (0 < t568.length) = false := decide_eq_false (by omega)
                      clear c25
                      have H' := Aside0.mk H
                      clear H
                      obtain ⟨Ao26, co26, eo26⟩ := Kd.R_slice HO571.out
                      subst eo26
                      go_wp2
                      all_goals go_meet
                      all_goals (first | (exfalso; simp [c22b0] at c21b0; omega) | exact ⟨_, (false), (by first | rfl | (simp; done) | (congr 2; (try unfold wrap64); omega) | (simp [*]; done)), H', ⟨by have := HK1.out; first | omega | exact Nat.le_refl _⟩, ⟨by (with_reducible repeat (first | apply Kd.R_alloc | apply Kd.R_drewN | apply Kd.R_drew)); exact Kd.R_mono HO_8.out (fun _ hk => trivial)⟩, ⟨by (with_reducible repeat (first | apply Kd.R_alloc | apply Kd.R_drewN | apply Kd.R_drew)); exact HO_10.out⟩, ⟨by repeat (first | (with_reducible first | exact HB.out | apply below_alloc | apply pw_below_drewN | apply below_drew1) | exact HB.out)⟩⟩)
                  · rw [if_neg c24] at H
                    exact absurd H (by simp)
            case rest =>
              clear HC17
              try clear c1
              try clear c2
              try clear p2
              try clear c3
              try clear c5
              try clear p6
              try clear c7
              try clear c9
              try clear c13
              try clear c13b0
              try clear c14
              try clear c21
              try clear c21b0
              try clear c21b1
              try clear c21b2
              try clear c22
              try clear c22b0
              try clear c22b1
              try clear c23
              try clear c24
              try clear c24b0
              try clear c24b1
              try clear c25
              try clear c25b0
              try clear c25b1
              try clear p2
              obtain ⟨kq, x84_16, rfl, HA, HJ16, HO_8, HO_10, HB⟩ := hcut
              cases kq with
              | zero => exact absurd HA.out (by simp [plexuslaw46_JournalRefuses.j1])
              | succ kj16 =>
                have H := HA.out
                clear HA
                simp only [plexuslaw46_JournalRefuses.j1] at H
                by_cases c27 : x84_16 = true
                · subst c27
                  have H1 : (none) = some r := by rw [if_pos rfl] at H; exact H
                  clear H
                  have H := H1
                  clear H1
                  exact absurd H (by simp)
                · replace c27 := Bool.eq_false_iff.mpr c27
                  subst c27
                  have H1 : (if (t556.length : Int) = 0 then (some true) else (if 0 ≤ (wrap64 ((wrap64 ((t556.length : Int) - 1)) - (Int.tmod (wrap64 (a2)) 23))) then (if (wrap64 ((wrap64 ((t556.length : Int) - 1)) - (Int.tmod (wrap64 (a2)) 23))) ≤ (t556.length : Int) then ((journal_Put.f kj16 (t556.take ((wrap64 ((wrap64 ((t556.length : Int) - 1)) - (Int.tmod (wrap64 (a2)) 23))) : Int).toNat) x10_1).bind fun bt576 => (if (x10_1.length : Int) > 64 then (if bt576.2 = 1 then (some true) else (none)) else (if bt576.2 = 460 then (some true) else (none)))) else (none)) else (none))) = some r := by rw [if_neg (show ¬ (false = true) by decide)] at H; exact H
                  clear H
                  have H := H1
                  clear H1
                  by_cases c28 : (t556.length : Int) = 0
                  · rw [if_pos c28] at H
                    have c28b0 : ((t556.length : Int) == 0) = true := beq_iff_eq.mpr c28
                    have c28b1 : ((t556.length : Int) != 0) = false := bne_eq_false_iff_eq.mpr c28
                    clear c28
                    obtain rfl := Option.some.inj H
                    go_wp2
                    go_ret
                    exact ⟨by first | rfl | (simp [errW_none, errW_some] <;> rfl) | (simp [*, errW_none, errW_some] <;> rfl), by repeat (first | (with_reducible first | exact HB.out | apply below_alloc | apply pw_below_drewN | apply below_drew1) | exact HB.out)⟩
                  · rw [if_neg c28] at H
                    have c28b0 : ((t556.length : Int) == 0) = false := beq_eq_false_iff_ne.mpr c28
                    have c28b1 : ((t556.length : Int) != 0) = true := bne_iff_ne.mpr c28
                    have c28b2 : ¬ (t556 = []) := fun h_ => c28 (by rw [h_]; rfl)
                    obtain ⟨ji29, hji29⟩ : ∃ j_ : Int, (wrap64 ((wrap64 ((t556.length : Int) - 1)) - (Int.tmod (wrap64 (a2)) 23))) = j_ := ⟨_, rfl⟩
                    replace H : (if 0 ≤ (ji29) then (if (ji29) ≤ (t556.length : Int) then ((journal_Put.f kj16 (t556.take ((ji29) : Int).toNat) x10_1).bind fun bt576 => (if (x10_1.length : Int) > 64 then (if bt576.2 = 1 then (some true) else (none)) else (if bt576.2 = 460 then (some true) else (none)))) else (none)) else (none)) = some r := by first | (rw [hji29] at H; exact H) | (simp only [hji29] at H ⊢; exact H)
                    have hji29w : (IntKind.i64.wrap ((wrap64 ((t556.length : Int) - 1)) - (Int.tmod (wrap64 (a2)) 23))) = ji29 := (i64_w _).trans hji29
                    by_cases c30 : 0 ≤ (ji29)
                    · rw [if_pos c30] at H
                      have c30b0 := eq_true c30
                      have c30b1 : decide (0 ≤ (ji29)) = true := decide_eq_true c30
                      clear c30
                      by_cases c31 : (ji29) ≤ (t556.length : Int)
                      · rw [if_pos c31] at H
                        have c31b0 := eq_true c31
                        have c31b1 : decide ((ji29) ≤ (t556.length : Int)) = true := decide_eq_true c31
                        clear c31
                        obtain ⟨y572, hy572⟩ : ∃ y_ : List Int, y_ = (t556.take ((ji29) : Int).toNat) := ⟨_, rfl⟩
                        replace H : ((journal_Put.f kj16 y572 x10_1).bind fun bt576 => (if (x10_1.length : Int) > 64 then (if bt576.2 = 1 then (some true) else (none)) else (if bt576.2 = 460 then (some true) else (none)))) = some r := by first | (rw [hy572]; with_reducible exact H) | (have H2_ := (Option.bind_some _ _).symm.trans H; rw [hy572]; with_reducible exact H2_) | (have H2_ := (Option.bind_some _ _).symm.trans H; with_reducible exact H2_) | with_reducible exact H | (rw [hy572]; exact H) | exact H
                        have Ny572 := Aside0.mk hy572
                        clear hy572
                        replace H := Option.bind_eq_some_iff.mp H
                        obtain ⟨⟨t576, t577⟩, A320, H⟩ := H
                        replace H : (if (x10_1.length : Int) > 64 then (if t577 = 1 then (some true) else (none)) else (if t577 = 460 then (some true) else (none))) = some r := H
                        have A32 := Aside0.mk A320
                        clear A320
                        by_cases c33 : (x10_1.length : Int) > 64
                        · rw [if_pos c33] at H
                          have c33b0 : decide (64 < (x10_1.length : Int)) = true := decide_eq_true c33
                          have c33b1 : decide (64 < x10_1.length) = true := decide_eq_true (by omega)
                          clear c33
                          by_cases c34 : t577 = 1
                          · rw [if_pos c34] at H
                            have c34b0 : (t577 == 1) = true := beq_iff_eq.mpr c34
                            have c34b1 : (t577 != 1) = false := bne_eq_false_iff_eq.mpr c34
                            clear c34
                            obtain rfl := Option.some.inj H
                            have q35 : ((ji29) : Int) ≤ ((t556.length : Int) : Int) := of_decide_eq_true (by first | (with_reducible assumption) | assumption)
                            obtain ⟨i035, hi035, _, hsz35, _⟩ := info_parts info5
                            have hroom35 : t556.length ≤ co18 := (Kd.R_reads' HO_8.out).2.1
                            have hC35 : Kd.C (Kd.int .u8) _ Ao18 t556.length t556 := (Kd.R_reads' HO_8.out).2.2
                            have hcut35 := cut_to (P := Try.prog) 22 5 .i64 Try.underlying22 hi035 Ao18 t556.length co18 (ji29) (of_decide_eq_true (by first | (with_reducible assumption) | assumption)) q35 hroom35
                            have hr35 := Kd.C_take (m := ((ji29) : Int).toNat) hC35 (by omega)
                            have hy35 : y572.length = ((ji29) : Int).toNat := (by rw [Ny572.out, List.length_take]; omega)
                            rw [← Ny572.out] at hr35
                            rw [← hy35] at hcut35
                            have HR575 := Aside0.mk hr35
                            have HC575 := Aside0.mk (show y572.length ≤ co18 from by omega)
                            clear hr35 hC35 hroom35 hi035 hsz35
                            have KY35 := Aside0.mk hy35
                            clear hy35
                            have KL35 := Aside0.mk (show ((ji29) : Int).toNat ≤ t556.length from by omega)
                            replace q35 := eq_true q35
                            go_wp2_with (first | ((with_reducible refine gate_callee (f := 27) rfl ?_); refine goesL_ (some 101) rfl rfl Try.func27 (by kernel_rfl) rfl #[.slice Ao18 y572.length co18, .slice Ao19 x10_1.length co19] rfl (by (try simp only [List.map_toArray, List.map_cons, List.map_nil]); first | done | rfl | (simp only [List.length_drop, List.length_take]; rfl)) ?_; (with_reducible refine (journal_Put.calls kj16 _ _ y572 _ _ x10_1 t576 t577 _ ?side1 ?side2 ?side3 ?side4 A32.out).mono ?_); (case side1 => repeat (first | exact (by repeat (first | (with_reducible exact HR575.out) | (with_reducible refine Kd.C_alloc ?_ _) | (with_reducible refine Kd.C_drewN ?_ _) | (with_reducible refine Kd.C_drew ?_) | exact HR575.out)) | (with_reducible refine Kd.C_alloc ?_ _) | (with_reducible refine Kd.C_drewN ?_ _) | (with_reducible refine Kd.C_drew ?_))); (case side2 => exact HC575.out); (case side3 => repeat (first | exact (Kd.R_reads' HO_10.out).2.2 | (with_reducible refine Kd.C_alloc ?_ _) | (with_reducible refine Kd.C_drewN ?_ _) | (with_reducible refine Kd.C_drew ?_))); (case side4 => exact (Kd.R_reads' HO_10.out).2.1); rintro e w36 ⟨v578, rfl, ho0, hb⟩; refine ⟨_, rfl, ?_⟩; have n0_ := Aside0.mk (Kd.R_elder' (by (with_reducible repeat (first | apply Kd.R_alloc | apply Kd.R_drewN | apply Kd.R_drew)); exact HO_8.out) (Kd.R_base ho0) hb); have n1_ := Aside0.mk (Kd.R_below (by (with_reducible repeat (first | apply Kd.R_alloc | apply Kd.R_drewN | apply Kd.R_drew)); exact HO_10.out) hb); have n2_ := Aside0.mk (Kd.R_lower (Kd.R_new' ho0 (Kd.R_lt (by (with_reducible repeat (first | apply Kd.R_alloc | apply Kd.R_drewN | apply Kd.R_drew)); exact HO_8.out))) (below_size (by repeat (first | (with_reducible first | exact HB.out | apply below_alloc | apply pw_below_drewN | apply below_drew1) | exact HB.out)))); have n3_ := Aside0.mk (Kd.C_below (by repeat (first | (with_reducible exact HR575.out) | (with_reducible refine Kd.C_alloc ?_ _) | (with_reducible refine Kd.C_drewN ?_ _) | (with_reducible refine Kd.C_drew ?_) | exact HR575.out)) hb); have n4_ := Aside0.mk (below_step (by repeat (first | (with_reducible first | exact HB.out | apply below_alloc | apply pw_below_drewN | apply below_drew1) | exact HB.out)) hb); clear HO_8; clear HO_10; clear HR575; clear HB; have HO_8 := n0_; have HO_10 := n1_; have HO579 := n2_; have HR575 := n3_; have HB := n4_; clear n0_ n1_ n2_ n3_ n4_; (try clear hb); (try clear hb2); (try clear hk); (try clear hi); (try clear ho0)))
                            go_ret
                            exact ⟨by first | rfl | (simp [errW_none, errW_some] <;> rfl) | (simp only [← hji29]; first | rfl | (simp [errW_none, errW_some] <;> rfl)) | (simp [*, errW_none, errW_some] <;> rfl), by repeat (first | (with_reducible first | exact HB.out | apply below_alloc | apply pw_below_drewN | apply below_drew1) | exact HB.out)⟩
                          · rw [if_neg c34] at H
                            exact absurd H (by simp)
                        · rw [if_neg c33] at H
                          have c33b0 : decide (64 < (x10_1.length : Int)) = false := decide_eq_false c33
                          have c33b1 : decide (64 < x10_1.length) = false := decide_eq_false (by omega)
                          clear c33
                          by_cases c37 : t577 = 460
                          · rw [if_pos c37] at H
                            have c37b0 : (t577 == 460) = true := beq_iff_eq.mpr c37
                            have c37b1 : (t577 != 460) = false := bne_eq_false_iff_eq.mpr c37
                            clear c37
                            obtain rfl := Option.some.inj H
                            have q38 : ((ji29) : Int) ≤ ((t556.length : Int) : Int) := of_decide_eq_true (by first | (with_reducible assumption) | assumption)
                            obtain ⟨i038, hi038, _, hsz38, _⟩ := info_parts info5
                            have hroom38 : t556.length ≤ co18 := (Kd.R_reads' HO_8.out).2.1
                            have hC38 : Kd.C (Kd.int .u8) _ Ao18 t556.length t556 := (Kd.R_reads' HO_8.out).2.2
                            (try clear hcut35)
                            have hcut38 := cut_to (P := Try.prog) 22 5 .i64 Try.underlying22 hi038 Ao18 t556.length co18 (ji29) (of_decide_eq_true (by first | (with_reducible assumption) | assumption)) q38 hroom38
                            have hr38 := Kd.C_take (m := ((ji29) : Int).toNat) hC38 (by omega)
                            have hy38 : y572.length = ((ji29) : Int).toNat := (by rw [Ny572.out, List.length_take]; omega)
                            rw [← Ny572.out] at hr38
                            rw [← hy38] at hcut38
                            have HR575 := Aside0.mk hr38
                            have HC575 := Aside0.mk (show y572.length ≤ co18 from by omega)
                            clear hr38 hC38 hroom38 hi038 hsz38
                            have KY38 := Aside0.mk hy38
                            clear hy38
                            have KL38 := Aside0.mk (show ((ji29) : Int).toNat ≤ t556.length from by omega)
                            replace q38 := eq_true q38
                            go_wp2_with (first | ((with_reducible refine gate_callee (f := 27) rfl ?_); refine goesL_ (some 101) rfl rfl Try.func27 (by kernel_rfl) rfl #[.slice Ao18 y572.length co18, .slice Ao19 x10_1.length co19] rfl (by (try simp only [List.map_toArray, List.map_cons, List.map_nil]); first | done | rfl | (simp only [List.length_drop, List.length_take]; rfl)) ?_; (with_reducible refine (journal_Put.calls kj16 _ _ y572 _ _ x10_1 t576 t577 _ ?side1 ?side2 ?side3 ?side4 A32.out).mono ?_); (case side1 => repeat (first | exact (by repeat (first | (with_reducible exact HR575.out) | (with_reducible refine Kd.C_alloc ?_ _) | (with_reducible refine Kd.C_drewN ?_ _) | (with_reducible refine Kd.C_drew ?_) | exact HR575.out)) | (with_reducible refine Kd.C_alloc ?_ _) | (with_reducible refine Kd.C_drewN ?_ _) | (with_reducible refine Kd.C_drew ?_))); (case side2 => exact HC575.out); (case side3 => repeat (first | exact (Kd.R_reads' HO_10.out).2.2 | (with_reducible refine Kd.C_alloc ?_ _) | (with_reducible refine Kd.C_drewN ?_ _) | (with_reducible refine Kd.C_drew ?_))); (case side4 => exact (Kd.R_reads' HO_10.out).2.1); rintro e w39 ⟨v578, rfl, ho0, hb⟩; refine ⟨_, rfl, ?_⟩; have n0_ := Aside0.mk (Kd.R_elder' (by (with_reducible repeat (first | apply Kd.R_alloc | apply Kd.R_drewN | apply Kd.R_drew)); exact HO_8.out) (Kd.R_base ho0) hb); have n1_ := Aside0.mk (Kd.R_below (by (with_reducible repeat (first | apply Kd.R_alloc | apply Kd.R_drewN | apply Kd.R_drew)); exact HO_10.out) hb); have n2_ := Aside0.mk (Kd.R_lower (Kd.R_new' ho0 (Kd.R_lt (by (with_reducible repeat (first | apply Kd.R_alloc | apply Kd.R_drewN | apply Kd.R_drew)); exact HO_8.out))) (below_size (by repeat (first | (with_reducible first | exact HB.out | apply below_alloc | apply pw_below_drewN | apply below_drew1) | exact HB.out)))); have n3_ := Aside0.mk (Kd.C_below (by repeat (first | (with_reducible exact HR575.out) | (with_reducible refine Kd.C_alloc ?_ _) | (with_reducible refine Kd.C_drewN ?_ _) | (with_reducible refine Kd.C_drew ?_) | exact HR575.out)) hb); have n4_ := Aside0.mk (below_step (by repeat (first | (with_reducible first | exact HB.out | apply below_alloc | apply pw_below_drewN | apply below_drew1) | exact HB.out)) hb); clear HO_8; clear HO_10; clear HR575; clear HB; have HO_8 := n0_; have HO_10 := n1_; have HO579 := n2_; have HR575 := n3_; have HB := n4_; clear n0_ n1_ n2_ n3_ n4_; (try clear hb); (try clear hb2); (try clear hk); (try clear hi); (try clear ho0)))
                            go_ret
                            exact ⟨by first | rfl | (simp [errW_none, errW_some] <;> rfl) | (simp only [← hji29]; first | rfl | (simp [errW_none, errW_some] <;> rfl)) | (simp [*, errW_none, errW_some] <;> rfl), by repeat (first | (with_reducible first | exact HB.out | apply below_alloc | apply pw_below_drewN | apply below_drew1) | exact HB.out)⟩
                          · rw [if_neg c37] at H
                            exact absurd H (by simp)
                      · rw [if_neg c31] at H
                        exact absurd H (by simp)
                    · rw [if_neg c30] at H
                      exact absurd H (by simp)
    · replace c7 := Bool.eq_false_iff.mpr c7
      subst c7
      have H1 : (some true) = some r := by rw [if_neg (show ¬ (false = true) by decide)] at H; exact H
      clear H
      have H := H1
      clear H1
      obtain rfl := Option.some.inj H
      go_enter Try.func9, Try.ntmps9
      go_wp2_with (first | ((with_reducible refine gate_callee (f := 22) rfl ?_); refine goesL_ (some 17) rfl rfl Try.func22 (by kernel_rfl) rfl #[] rfl (by (try simp only [List.map_toArray, List.map_cons, List.map_nil]); first | done | rfl | (simp only [List.length_drop, List.length_take]; rfl)) ?_; (with_reducible refine (plexuslaw46_examples.calls k  true _ A4.out).mono ?_); rintro e w40 ⟨rfl, hb⟩; refine ⟨_, rfl, ?_⟩; have n0_ := Aside0.mk (below_step (by repeat (first | (with_reducible first | exact HB.out | apply below_alloc | apply pw_below_drewN | apply below_drew1) | exact HB.out)) hb); clear HB; have HB := n0_; clear n0_; (try clear hb); (try clear hb2); (try clear hk); (try clear hi)) | ((with_reducible refine gate_callee (f := 23) rfl ?_); refine goesL_ (some 21) rfl rfl Try.func23 (by kernel_rfl) rfl #[.slice A0 l0.length c0] rfl (by (try simp only [List.map_toArray, List.map_cons, List.map_nil]); first | done | rfl | (simp only [List.length_drop, List.length_take]; rfl)) ?_; (with_reducible refine (plexusref46_Small.calls k _ _ l0 false _ ?side1 ?side2 A6.out).mono ?_); (case side1 => repeat (first | exact (Kd.C_below HR0.out HB.out) | (with_reducible refine Kd.C_alloc ?_ _) | (with_reducible refine Kd.C_drewN ?_ _) | (with_reducible refine Kd.C_drew ?_))); (case side2 => exact HC0.out); rintro e w' ⟨rfl, ⟨nd, rfl⟩⟩; refine ⟨_, rfl, ?_⟩))
      go_ret
      exact ⟨by first | rfl | (simp [errW_none, errW_some] <;> rfl) | (simp [*, errW_none, errW_some] <;> rfl), by repeat (first | (with_reducible first | exact HB.out | apply below_alloc | apply pw_below_drewN | apply below_drew1) | exact HB.out)⟩
  · replace c5 := Bool.eq_false_iff.mpr c5
    subst c5
    have H1 : (none) = some r := by rw [if_neg (show ¬ (false = true) by decide)] at H; exact H
    clear H
    have H := H1
    clear H1
    exact absurd H (by simp)

/-- THE ONE PURE STATEMENT of plexuslaw46_JournalRefuses. -/
def plexuslaw46_JournalRefuses.Pure : Prop := ∀ (l0 : List (List Int)) (a1 : Int) (a2 : Int), (l0.length * 24 ≤ 140737488351232 ∧ l0.length ≤ maxLen ∧ ∀ x_ ∈ l0, (x_.length * 8 ≤ 140737488351232 ∧ x_.length ≤ maxLen ∧ ∀ y_ ∈ x_, (Lit.int .i64 y_).wf = true)) → (Lit.int .u8 a1).wf = true → (Lit.int .u16 a2).wf = true → ∃ k, plexuslaw46_JournalRefuses.f k l0 a1 a2 = some true
theorem plexuslaw46_JournalRefuses.walk (P : plexuslaw46_JournalRefuses.Pure) (w : World) (A0 : Option Addr) (c0 : Nat) (l0 : List (List Int)) (hr0 : Kd.C (Kd.slice 3 (Kd.int .i64)) w A0 l0.length l0) (hc0 : l0.length ≤ c0) (w0 : (l0.length * 24 ≤ 140737488351232 ∧ l0.length ≤ maxLen ∧ ∀ x_ ∈ l0, (x_.length * 8 ≤ 140737488351232 ∧ x_.length ≤ maxLen ∧ ∀ y_ ∈ x_, (Lit.int .i64 y_).wf = true))) (a1 : Int) (w1 : (Lit.int .u8 a1).wf = true) (a2 : Int) (w2 : (Lit.int .u16 a2).wf = true) :
    Calls Try.prog 9 #[.slice A0 l0.length c0, .int .u8 a1, .int .u16 a2] w fun e w' => e = .returned (.bool true) ∧ Below w.heap.size w w' := by
  obtain ⟨k, h⟩ := P l0 a1 a2 w0 w1 w2
  refine (plexuslaw46_JournalRefuses.calls k A0 c0 l0 a1 a2 true w hr0 hc0 h).mono ?_
  rintro e w' ⟨rfl, hd⟩
  exact ⟨rfl, hd⟩

end Go.Proofs.Ytcanekmlabehgaa.P46
