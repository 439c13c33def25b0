-- PRINTED by print.py (a twelfth state) out of the translation. Not trusted: Lean checks it.
import Derived.Test.YtcanekmlabehgaaPx0
import Derived.Test.YtcanekmlabehgaaPx1
import Derived.Test.YtcanekmlabehgaaPx2
import Derived.Test.YtcanekmlabehgaaPx3
import Derived.Test.YtcanekmlabehgaaPx5
namespace Go.Proofs.Ytcanekmlabehgaa.P
open Go.RowKit Go.Proofs.YtcanekmlabehgaaW.PrintWords Go.Proofs.YtcanekmlabehgaaW.PrintLast Go.Proofs.YtcanekmlabehgaaW.PrintMore
attribute [local go_sem] max2_int min2_int max_two min_two max_three min_three max_four min_four   -- for this text's walks alone
set_option linter.unusedVariables false
set_option linter.unusedSimpArgs false

attribute [local go_sem high] eqA52
-- NOT PRINTED: function 14 (plexuslaw23_BoundRelations)

/-! ### plexuslaw23_BoundTight: function 15 -/
mutual
def plexuslaw23_BoundTight.l0 : Nat → Int → Bool → Int → Int → Int → Int → Int → Option (Bool)
  | 0, _, _, _, _, _, _, _ => none
  | k + 1, x1, x5, x6, x7, x8, x9, x10 => (plexusref23_Power.f x7).bind fun t427 => (if x10 < t427 then (plexuslaw23_BoundTight.l1 k x1 x5 x6 x7 x8 x9 x10 0 0) else (if x9 = 3 then ((plexuslaw23_sphere.f k x7 3).bind fun bt429 => ((plexuslaw23_is.f x8).bind fun bt431 => (if (!(bt429.1 == bt431.1) || (!(bt429.2 == bt431.2))) = true then (none) else ((plexuslaw23_best.f k x7 3).bind fun bt433 => ((plexuslaw23_is.f x8).bind fun bt435 => (if (!(bt433.1 == bt435.1) || (!(bt433.2 == bt435.2))) = true then (none) else ((plexusref23_Power.f (wrap64 (x6 - 1))).bind fun t437 => ((plexuslaw23_plotkin.f k x7 t437).bind fun bt438 => ((plexusref23_Power.f x6).bind fun t440 => ((plexuslaw23_is.f t440).bind fun bt441 => (if (!(bt438.1 == bt441.1) || (!(bt438.2 == bt441.2))) = true then (none) else ((plexusref23_Power.f (wrap64 (x6 - 1))).bind fun t443 => ((plexuslaw23_griesmer.f k x6 t443).bind fun bt444 => ((plexuslaw23_is.f x7).bind fun bt446 => (if (!(bt444.1 == bt446.1) || (!(bt444.2 == bt446.2))) = true then (none) else ((plexusref23_Power.f (wrap64 (x6 - 1))).bind fun t448 => ((plexuslaw23_best.f k x7 t448).bind fun bt449 => ((plexusref23_Power.f x6).bind fun t451 => ((plexuslaw23_is.f t451).bind fun bt452 => (if (!(bt449.1 == bt452.1) || (!(bt449.2 == bt452.2))) = true then (none) else (plexuslaw23_BoundTight.l2 k x5 (wrap64 (2 + (Int.tmod (wrap64 (x1)) 15))) 0 0))))))))))))))))))))) else (none)))
def plexuslaw23_BoundTight.l1 : Nat → Int → Bool → Int → Int → Int → Int → Int → Int → Int → Option (Bool)
  | 0, _, _, _, _, _, _, _, _, _ => none
  | k + 1, x1, x5, x6, x7, x8, x9, x10, x11, x12 => if x12 < x7 then (if 0 ≤ (IntKind.u64.wrap (x12)) then (if (Go.bits .and .i64 (shr .i64 x10 (IntKind.u64.wrap (x12))) 1) = 1 then (plexuslaw23_BoundTight.l1 k x1 x5 x6 x7 x8 x9 x10 (Go.bits .xor .i64 x11 (wrap64 (x12 + 1))) (wrap64 (x12 + 1))) else (plexuslaw23_BoundTight.l1 k x1 x5 x6 x7 x8 x9 x10 x11 (wrap64 (x12 + 1)))) else (none)) else (if x11 = 0 then (if x10 > 0 then ((plexusref23_Weight.f k x10).bind fun t428 => (plexuslaw23_BoundTight.l0 k x1 x5 x6 x7 (wrap64 (x8 + 1)) (mn x9 t428) (wrap64 (x10 + 1)))) else (plexuslaw23_BoundTight.l0 k x1 x5 x6 x7 (wrap64 (x8 + 1)) x9 (wrap64 (x10 + 1)))) else (plexuslaw23_BoundTight.l0 k x1 x5 x6 x7 x8 x9 (wrap64 (x10 + 1))))
def plexuslaw23_BoundTight.l2 : Nat → Bool → Int → Int → Int → Option (Bool)
  | 0, _, _, _, _ => none
  | k + 1, x5, x13, x14, x15 => (plexusref23_Power.f x13).bind fun t454 => (if x15 < t454 then ((plexusref23_Weight.f k x15).bind fun t455 => (if (Int.tmod t455 2) = 0 then (plexuslaw23_BoundTight.l2 k x5 x13 (wrap64 (x14 + 1)) (wrap64 (x15 + 1))) else (plexuslaw23_BoundTight.l2 k x5 x13 x14 (wrap64 (x15 + 1))))) else (if x5 = true then ((plexuslaw23_singleton.f x13 2).bind fun bt456 => ((plexuslaw23_is.f x14).bind fun bt458 => (if (bt456.1 == bt458.1 && (bt456.2 == bt458.2)) = true then ((plexuslaw23_best.f k x13 2).bind fun bt460 => ((plexuslaw23_is.f x14).bind fun bt462 => (if (bt460.1 == bt462.1 && (bt460.2 == bt462.2)) = true then ((plexuslaw23_best.f k x13 x13).bind fun bt464 => ((plexuslaw23_is.f 2).bind fun bt466 => (if (bt464.1 == bt466.1 && (bt464.2 == bt466.2)) = true then ((plexuslaw23_plotkin.f k x13 x13).bind fun bt468 => ((plexuslaw23_is.f 2).bind fun bt470 => (if (bt468.1 == bt470.1 && (bt468.2 == bt470.2)) = true then ((plexuslaw23_singleton.f x13 x13).bind fun bt472 => ((plexuslaw23_is.f 2).bind fun bt474 => (if (bt472.1 == bt474.1 && (bt472.2 == bt474.2)) = true then (if (Int.tmod x13 2) = 0 then (some true) else ((plexuslaw23_sphere.f k x13 x13).bind fun bt476 => ((plexuslaw23_is.f 2).bind fun bt478 => (some (bt476.1 == bt478.1 && (bt476.2 == bt478.2)))))) else (none)))) else (none)))) else (none)))) else (none)))) else (none)))) else (none)))
end
def plexuslaw23_BoundTight.f (k : Nat) (a0 : Int) (a1 : Int) : Option (Bool) := (plexuslaw23_examples.f k).bind fun t425 => (if t425 = true then ((plexusref23_Power.f (wrap64 (2 + (Int.tmod (wrap64 (a0)) 3)))).bind fun t426 => (plexuslaw23_BoundTight.l0 k a1 t425 (wrap64 (2 + (Int.tmod (wrap64 (a0)) 3))) (wrap64 (t426 - 1)) 0 16 0)) else (none))
theorem plexuslaw23_BoundTight.mono_l : ∀ k, (∀ y0 y1 y2 y3 y4 y5 y6, LeO (plexuslaw23_BoundTight.l0 k y0 y1 y2 y3 y4 y5 y6) (plexuslaw23_BoundTight.l0 (k + 1) y0 y1 y2 y3 y4 y5 y6)) ∧ (∀ y0 y1 y2 y3 y4 y5 y6 y7 y8, LeO (plexuslaw23_BoundTight.l1 k y0 y1 y2 y3 y4 y5 y6 y7 y8) (plexuslaw23_BoundTight.l1 (k + 1) y0 y1 y2 y3 y4 y5 y6 y7 y8)) ∧ (∀ y0 y1 y2 y3, LeO (plexuslaw23_BoundTight.l2 k y0 y1 y2 y3) (plexuslaw23_BoundTight.l2 (k + 1) y0 y1 y2 y3))
  | 0 => ⟨fun _ _ _ _ _ _ _ r h => by simp [plexuslaw23_BoundTight.l0] at h, fun _ _ _ _ _ _ _ _ _ r h => by simp [plexuslaw23_BoundTight.l1] at h, fun _ _ _ _ r h => by simp [plexuslaw23_BoundTight.l2] at h⟩
  | k + 1 => by
    obtain ⟨ih0, ih1, ih2⟩ := plexuslaw23_BoundTight.mono_l k
    refine ⟨?_, ?_, ?_⟩
    · intro y0 y1 y2 y3 y4 y5 y6
      unfold plexuslaw23_BoundTight.l0
      repeat' first
      | (with_reducible exact ih0 _ _ _ _ _ _ _)
      | (with_reducible exact ih1 _ _ _ _ _ _ _ _ _)
      | (with_reducible exact ih2 _ _ _ _)
      | (with_reducible exact plexuslaw23_best.mono _ _ _)
      | (with_reducible exact plexuslaw23_examples.mono _)
      | (with_reducible exact plexuslaw23_griesmer.mono _ _ _)
      | (with_reducible exact plexuslaw23_plotkin.mono _ _ _)
      | (with_reducible exact plexuslaw23_sphere.mono _ _ _)
      | (with_reducible exact plexusref23_Weight.mono _ _)
      | (with_reducible exact LeO.refl _)
      | (with_reducible exact LeO.none _)
      | (with_reducible refine LeO.ite ?_ ?_)
      | (with_reducible refine LeO.bind ?_ (fun _ => ?_))
      | exact ih0 _ _ _ _ _ _ _
      | exact ih1 _ _ _ _ _ _ _ _ _
      | exact ih2 _ _ _ _
      | exact plexuslaw23_best.mono _ _ _
      | exact plexuslaw23_examples.mono _
      | exact plexuslaw23_griesmer.mono _ _ _
      | exact plexuslaw23_plotkin.mono _ _ _
      | exact plexuslaw23_sphere.mono _ _ _
      | exact plexusref23_Weight.mono _ _
      | exact LeO.none _
      | refine LeO.ite ?_ ?_
      | refine LeO.bind ?_ (fun _ => ?_)
    · intro y0 y1 y2 y3 y4 y5 y6 y7 y8
      unfold plexuslaw23_BoundTight.l1
      repeat' first
      | (with_reducible exact ih0 _ _ _ _ _ _ _)
      | (with_reducible exact ih1 _ _ _ _ _ _ _ _ _)
      | (with_reducible exact ih2 _ _ _ _)
      | (with_reducible exact plexuslaw23_best.mono _ _ _)
      | (with_reducible exact plexuslaw23_examples.mono _)
      | (with_reducible exact plexuslaw23_griesmer.mono _ _ _)
      | (with_reducible exact plexuslaw23_plotkin.mono _ _ _)
      | (with_reducible exact plexuslaw23_sphere.mono _ _ _)
      | (with_reducible exact plexusref23_Weight.mono _ _)
      | (with_reducible exact LeO.refl _)
      | (with_reducible exact LeO.none _)
      | (with_reducible refine LeO.ite ?_ ?_)
      | (with_reducible refine LeO.bind ?_ (fun _ => ?_))
      | exact ih0 _ _ _ _ _ _ _
      | exact ih1 _ _ _ _ _ _ _ _ _
      | exact ih2 _ _ _ _
      | exact plexuslaw23_best.mono _ _ _
      | exact plexuslaw23_examples.mono _
      | exact plexuslaw23_griesmer.mono _ _ _
      | exact plexuslaw23_plotkin.mono _ _ _
      | exact plexuslaw23_sphere.mono _ _ _
      | exact plexusref23_Weight.mono _ _
      | exact LeO.none _
      | refine LeO.ite ?_ ?_
      | refine LeO.bind ?_ (fun _ => ?_)
    · intro y0 y1 y2 y3
      unfold plexuslaw23_BoundTight.l2
      repeat' first
      | (with_reducible exact ih0 _ _ _ _ _ _ _)
      | (with_reducible exact ih1 _ _ _ _ _ _ _ _ _)
      | (with_reducible exact ih2 _ _ _ _)
      | (with_reducible exact plexuslaw23_best.mono _ _ _)
      | (with_reducible exact plexuslaw23_examples.mono _)
      | (with_reducible exact plexuslaw23_griesmer.mono _ _ _)
      | (with_reducible exact plexuslaw23_plotkin.mono _ _ _)
      | (with_reducible exact plexuslaw23_sphere.mono _ _ _)
      | (with_reducible exact plexusref23_Weight.mono _ _)
      | (with_reducible exact LeO.refl _)
      | (with_reducible exact LeO.none _)
      | (with_reducible refine LeO.ite ?_ ?_)
      | (with_reducible refine LeO.bind ?_ (fun _ => ?_))
      | exact ih0 _ _ _ _ _ _ _
      | exact ih1 _ _ _ _ _ _ _ _ _
      | exact ih2 _ _ _ _
      | exact plexuslaw23_best.mono _ _ _
      | exact plexuslaw23_examples.mono _
      | exact plexuslaw23_griesmer.mono _ _ _
      | exact plexuslaw23_plotkin.mono _ _ _
      | exact plexuslaw23_sphere.mono _ _ _
      | exact plexusref23_Weight.mono _ _
      | exact LeO.none _
      | refine LeO.ite ?_ ?_
      | refine LeO.bind ?_ (fun _ => ?_)
theorem plexuslaw23_BoundTight.mono : ∀ a0 a1 k, LeO (plexuslaw23_BoundTight.f k a0 a1) (plexuslaw23_BoundTight.f (k + 1) a0 a1) := by
  intro a0 a1 k
  obtain ⟨ih0, ih1, ih2⟩ := plexuslaw23_BoundTight.mono_l k
  unfold plexuslaw23_BoundTight.f
  repeat' first
      | (with_reducible exact ih0 _ _ _ _ _ _ _)
      | (with_reducible exact ih1 _ _ _ _ _ _ _ _ _)
      | (with_reducible exact ih2 _ _ _ _)
      | (with_reducible exact plexuslaw23_best.mono _ _ _)
      | (with_reducible exact plexuslaw23_examples.mono _)
      | (with_reducible exact plexuslaw23_griesmer.mono _ _ _)
      | (with_reducible exact plexuslaw23_plotkin.mono _ _ _)
      | (with_reducible exact plexuslaw23_sphere.mono _ _ _)
      | (with_reducible exact plexusref23_Weight.mono _ _)
      | (with_reducible exact LeO.refl _)
      | (with_reducible exact LeO.none _)
      | (with_reducible refine LeO.ite ?_ ?_)
      | (with_reducible refine LeO.bind ?_ (fun _ => ?_))
      | exact ih0 _ _ _ _ _ _ _
      | exact ih1 _ _ _ _ _ _ _ _ _
      | exact ih2 _ _ _ _
      | exact plexuslaw23_best.mono _ _ _
      | exact plexuslaw23_examples.mono _
      | exact plexuslaw23_griesmer.mono _ _ _
      | exact plexuslaw23_plotkin.mono _ _ _
      | exact plexuslaw23_sphere.mono _ _ _
      | exact plexusref23_Weight.mono _ _
      | exact LeO.none _
      | refine LeO.ite ?_ ?_
      | refine LeO.bind ?_ (fun _ => ?_)
set_option maxHeartbeats 8000000 in
set_option maxRecDepth 100000 in
theorem plexuslaw23_BoundTight.calls (k : Nat) (a0 : Int) (a1 : Int) (r : Bool) (w : World) (h : plexuslaw23_BoundTight.f k a0 a1 = some r) :
    Calls Try.prog 15 #[.int .u8 a0, .int .u8 a1] w fun e w' => e = .returned (.bool r) ∧ Below w.heap.size w w' := by
  have HB := Aside0.mk (Below.refl w.heap.size w)
  have H : ((plexuslaw23_examples.f k).bind fun t425 => (if t425 = true then ((plexusref23_Power.f (wrap64 (2 + (Int.tmod (wrap64 (a0)) 3)))).bind fun t426 => (plexuslaw23_BoundTight.l0 k a1 t425 (wrap64 (2 + (Int.tmod (wrap64 (a0)) 3))) (wrap64 (t426 - 1)) 0 16 0)) else (none))) = some r := h
  clear h
  replace H := Option.bind_eq_some_iff.mp H
  obtain ⟨t425, A30, H⟩ := H
  replace H : (if t425 = true then ((plexusref23_Power.f (wrap64 (2 + (Int.tmod (wrap64 (a0)) 3)))).bind fun t426 => (plexuslaw23_BoundTight.l0 k a1 t425 (wrap64 (2 + (Int.tmod (wrap64 (a0)) 3))) (wrap64 (t426 - 1)) 0 16 0)) else (none)) = some r := H
  have A3 := Aside0.mk A30
  clear A30
  by_cases c4 : t425 = true
  · subst c4
    have H1 : ((plexusref23_Power.f (wrap64 (2 + (Int.tmod (wrap64 (a0)) 3)))).bind fun t426 => (plexuslaw23_BoundTight.l0 k a1 true (wrap64 (2 + (Int.tmod (wrap64 (a0)) 3))) (wrap64 (t426 - 1)) 0 16 0)) = some r := by rw [if_pos rfl] at H; exact H
    clear H
    have H := H1
    clear H1
    replace H := Option.bind_eq_some_iff.mp H
    obtain ⟨t426, A50, H⟩ := H
    replace H : (plexuslaw23_BoundTight.l0 k a1 true (wrap64 (2 + (Int.tmod (wrap64 (a0)) 3))) (wrap64 (t426 - 1)) 0 16 0) = some r := H
    have A5 := Aside0.mk A50
    clear A50
    have H' := Aside0.mk H
    clear H
    go_enter Try.func15, Try.ntmps15
    go_wp2_with (first | ((with_reducible refine gate_callee (f := 35) rfl ?_); refine goesL_ (some 16) rfl rfl Try.func35 (by kernel_rfl) rfl #[] rfl (by (try simp only [List.map_toArray, List.map_cons, List.map_nil]); first | done | rfl | (simp only [List.length_drop, List.length_take]; rfl)) ?_; (with_reducible refine (plexuslaw23_examples.calls k  true _ A3.out).mono ?_); rintro e w6 ⟨rfl, hb⟩; refine ⟨_, rfl, ?_⟩; have n0_ := Aside0.mk (below_step (by repeat (first | (with_reducible first | exact HB.out | apply below_alloc | apply pw_below_drewN | apply below_drew1) | exact HB.out)) hb); clear HB; have HB := n0_; clear n0_; (try clear hb); (try clear hb2); (try clear hk); (try clear hi)) | ((with_reducible refine gate_callee (f := 51) rfl ?_); refine goesL_ (some 24) rfl rfl Try.func51 (by kernel_rfl) rfl #[.int .i64 (wrap64 (2 + (Int.tmod (wrap64 (a0)) 3)))] rfl (by (try simp only [List.map_toArray, List.map_cons, List.map_nil]); first | done | rfl | (simp only [List.length_drop, List.length_take]; rfl)) ?_; (with_reducible refine (plexusref23_Power.calls (wrap64 (2 + (Int.tmod (wrap64 (a0)) 3))) t426 _ A5.out).mono ?_); rintro e w' ⟨rfl, ⟨nd, rfl⟩⟩; refine ⟨_, rfl, ?_⟩))
    go_loopg [8, 9, 10] k (fun kq v8 v9 v10 w' => ∃ (x8_1 : Int) (x9_1 : Int) (x10_1 : Int), v8 = .int .i64 x8_1 ∧ v9 = .int .i64 x9_1 ∧ v10 = .int .i64 x10_1 ∧ Aside0 (plexuslaw23_BoundTight.l0 kq a1 true (wrap64 (2 + (Int.tmod (wrap64 (a0)) 3))) (wrap64 (t426 - 1)) x8_1 x9_1 x10_1 = some r) ∧ Aside0 (kq ≤ k) ∧ Aside0 (Below w.heap.size w w'))
    case atStart => exact ⟨(0), (16), (0), (by first | rfl | (simp; done) | (simp [*]; done)), (by first | rfl | (simp; done) | (simp [*]; done)), (by first | rfl | (simp; done) | (simp [*]; done)), H', ⟨Nat.le_refl _⟩, ⟨by repeat (first | (with_reducible first | exact HB.out | apply below_alloc | apply pw_below_drewN | apply below_drew1) | exact HB.out)⟩⟩
    case round =>
      clear H'
      try clear c1
      try clear p2
      try clear c3
      try clear c4
      try clear c5
      try clear p6
      obtain ⟨x8_1, x9_1, x10_1, rfl, rfl, rfl, HA, HK1, HB⟩ := hrel
      cases gk with
      | zero => exact absurd HA.out (by simp [plexuslaw23_BoundTight.l0])
      | succ k1 =>
        have H := HA.out
        clear HA
        simp only [plexuslaw23_BoundTight.l0] at H
        replace H := Option.bind_eq_some_iff.mp H
        obtain ⟨t427, A70, H⟩ := H
        replace H : (if x10_1 < t427 then (plexuslaw23_BoundTight.l1 k1 a1 true (wrap64 (2 + (Int.tmod (wrap64 (a0)) 3))) (wrap64 (t426 - 1)) x8_1 x9_1 x10_1 0 0) else (if x9_1 = 3 then ((plexuslaw23_sphere.f k1 (wrap64 (t426 - 1)) 3).bind fun bt429 => ((plexuslaw23_is.f x8_1).bind fun bt431 => (if (!(bt429.1 == bt431.1) || (!(bt429.2 == bt431.2))) = true then (none) else ((plexuslaw23_best.f k1 (wrap64 (t426 - 1)) 3).bind fun bt433 => ((plexuslaw23_is.f x8_1).bind fun bt435 => (if (!(bt433.1 == bt435.1) || (!(bt433.2 == bt435.2))) = true then (none) else ((plexusref23_Power.f (wrap64 ((wrap64 (2 + (Int.tmod (wrap64 (a0)) 3))) - 1))).bind fun t437 => ((plexuslaw23_plotkin.f k1 (wrap64 (t426 - 1)) t437).bind fun bt438 => ((plexusref23_Power.f (wrap64 (2 + (Int.tmod (wrap64 (a0)) 3)))).bind fun t440 => ((plexuslaw23_is.f t440).bind fun bt441 => (if (!(bt438.1 == bt441.1) || (!(bt438.2 == bt441.2))) = true then (none) else ((plexusref23_Power.f (wrap64 ((wrap64 (2 + (Int.tmod (wrap64 (a0)) 3))) - 1))).bind fun t443 => ((plexuslaw23_griesmer.f k1 (wrap64 (2 + (Int.tmod (wrap64 (a0)) 3))) t443).bind fun bt444 => ((plexuslaw23_is.f (wrap64 (t426 - 1))).bind fun bt446 => (if (!(bt444.1 == bt446.1) || (!(bt444.2 == bt446.2))) = true then (none) else ((plexusref23_Power.f (wrap64 ((wrap64 (2 + (Int.tmod (wrap64 (a0)) 3))) - 1))).bind fun t448 => ((plexuslaw23_best.f k1 (wrap64 (t426 - 1)) t448).bind fun bt449 => ((plexusref23_Power.f (wrap64 (2 + (Int.tmod (wrap64 (a0)) 3)))).bind fun t451 => ((plexuslaw23_is.f t451).bind fun bt452 => (if (!(bt449.1 == bt452.1) || (!(bt449.2 == bt452.2))) = true then (none) else (plexuslaw23_BoundTight.l2 k1 true (wrap64 (2 + (Int.tmod (wrap64 (a1)) 15))) 0 0))))))))))))))))))))) else (none))) = some r := H
        have A7 := Aside0.mk A70
        clear A70
        by_cases c8 : x10_1 < t427
        · rw [if_pos c8] at H
          have c8b0 : decide (x10_1 < t427) = true := decide_eq_true c8
          clear c8
          have H' := Aside0.mk H
          clear H
          go_wp2_with (first | ((with_reducible refine gate_callee (f := 51) rfl ?_); refine goesL_ (some 28) rfl rfl Try.func51 (by kernel_rfl) rfl #[.int .i64 (wrap64 (t426 - 1))] rfl (by (try simp only [List.map_toArray, List.map_cons, List.map_nil]); first | done | rfl | (simp only [List.length_drop, List.length_take]; rfl)) ?_; (with_reducible refine (plexusref23_Power.calls (wrap64 (t426 - 1)) t427 _ A7.out).mono ?_); rintro e w' ⟨rfl, ⟨nd, rfl⟩⟩; refine ⟨_, rfl, ?_⟩))
          go_loopg [11, 12] k1 (fun kq v11 v12 w' => ∃ (x11_2 : Int) (x12_2 : Int), v11 = .int .i64 x11_2 ∧ v12 = .int .i64 x12_2 ∧ Aside0 (plexuslaw23_BoundTight.l1 kq a1 true (wrap64 (2 + (Int.tmod (wrap64 (a0)) 3))) (wrap64 (t426 - 1)) x8_1 x9_1 x10_1 x11_2 x12_2 = some r) ∧ Aside0 (kq ≤ k1) ∧ Aside0 (Below w.heap.size w w'))
          case atStart => exact ⟨(0), (0), (by first | rfl | (simp; done) | (simp [*]; done)), (by first | rfl | (simp; done) | (simp [*]; done)), H', ⟨Nat.le_refl _⟩, ⟨by repeat (first | (with_reducible first | exact HB.out | apply below_alloc | apply pw_below_drewN | apply below_drew1) | exact HB.out)⟩⟩
          case round =>
            clear H'
            try clear c1
            try clear p2
            try clear c3
            try clear c4
            try clear c5
            try clear p6
            try clear c8
            try clear c8b0
            try clear p2
            try clear p6
            obtain ⟨x11_2, x12_2, rfl, rfl, HA, HK2, HB⟩ := hrel
            cases gk with
            | zero => exact absurd HA.out (by simp [plexuslaw23_BoundTight.l1])
            | succ k2 =>
              have H := HA.out
              clear HA
              simp only [plexuslaw23_BoundTight.l1] at H
              by_cases c9 : x12_2 < (wrap64 (t426 - 1))
              · rw [if_pos c9] at H
                have c9b0 : decide (x12_2 < (wrap64 (t426 - 1))) = true := decide_eq_true c9
                clear c9
                obtain ⟨ji10, hji10⟩ : ∃ j_ : Int, (IntKind.u64.wrap (x12_2)) = j_ := ⟨_, rfl⟩
                replace H : (if 0 ≤ (ji10) then (if (Go.bits .and .i64 (shr .i64 x10_1 (ji10)) 1) = 1 then (plexuslaw23_BoundTight.l1 k2 a1 true (wrap64 (2 + (Int.tmod (wrap64 (a0)) 3))) (wrap64 (t426 - 1)) x8_1 x9_1 x10_1 (Go.bits .xor .i64 x11_2 (wrap64 (x12_2 + 1))) (wrap64 (x12_2 + 1))) else (plexuslaw23_BoundTight.l1 k2 a1 true (wrap64 (2 + (Int.tmod (wrap64 (a0)) 3))) (wrap64 (t426 - 1)) x8_1 x9_1 x10_1 x11_2 (wrap64 (x12_2 + 1)))) else (none)) = some r := by first | (rw [hji10] at H; exact H) | (simp only [hji10] at H ⊢; exact H)
                by_cases c11 : 0 ≤ (ji10)
                · rw [if_pos c11] at H
                  have c11b0 := eq_true c11
                  have c11b1 : decide (0 ≤ (ji10)) = true := decide_eq_true c11
                  clear c11
                  obtain ⟨ji12, hji12⟩ : ∃ j_ : Int, (shr .i64 x10_1 (ji10)) = j_ := ⟨_, rfl⟩
                  replace H : (if (Go.bits .and .i64 (ji12) 1) = 1 then (plexuslaw23_BoundTight.l1 k2 a1 true (wrap64 (2 + (Int.tmod (wrap64 (a0)) 3))) (wrap64 (t426 - 1)) x8_1 x9_1 x10_1 (Go.bits .xor .i64 x11_2 (wrap64 (x12_2 + 1))) (wrap64 (x12_2 + 1))) else (plexuslaw23_BoundTight.l1 k2 a1 true (wrap64 (2 + (Int.tmod (wrap64 (a0)) 3))) (wrap64 (t426 - 1)) x8_1 x9_1 x10_1 x11_2 (wrap64 (x12_2 + 1)))) = some r := by first | (rw [hji12] at H; exact H) | (simp only [hji12] at H ⊢; exact H)
                  have hji12_ : (x10_1 / 2 ^ min (ji10).toNat 64) = ji12 := hji12
                  have hji12z : (ji10) ≤ 64 → (x10_1 / 2 ^ (ji10).toNat) = ji12 := shr_small hji12
                  by_cases c13 : (Go.bits .and .i64 (ji12) 1) = 1
                  · rw [if_pos c13] at H
                    have c13b0 : ((Go.bits .and .i64 (ji12) 1) == 1) = true := beq_iff_eq.mpr c13
                    have c13b1 : ((Go.bits .and .i64 (ji12) 1) != 1) = false := bne_eq_false_iff_eq.mpr c13
                    clear c13
                    have H' := Aside0.mk H
                    clear H
                    go_wp2
                    go_roundg k2
                    case measure => have := HK1.out; have := HK2.out; omega
                    case rel => exact ⟨(Go.bits .xor .i64 x11_2 (wrap64 (x12_2 + 1))), (wrap64 (x12_2 + 1)), (by first | rfl | (simp; done) | (simp [*]; done)), (by first | rfl | (simp; done) | (simp [*]; done)), H', ⟨by have := HK1.out; have := HK2.out; omega⟩, ⟨by repeat (first | (with_reducible first | exact HB.out | apply below_alloc | apply pw_below_drewN | apply below_drew1) | exact HB.out)⟩⟩
                  · rw [if_neg c13] at H
                    have c13b0 : ((Go.bits .and .i64 (ji12) 1) == 1) = false := beq_eq_false_iff_ne.mpr c13
                    have c13b1 : ((Go.bits .and .i64 (ji12) 1) != 1) = true := bne_iff_ne.mpr c13
                    have H' := Aside0.mk H
                    clear H
                    go_wp2
                    go_roundg k2
                    case measure => have := HK1.out; have := HK2.out; omega
                    case rel => exact ⟨(x11_2), (wrap64 (x12_2 + 1)), (by first | rfl | (simp; done) | (simp [*]; done)), (by first | rfl | (simp; done) | (simp [*]; done)), H', ⟨by have := HK1.out; have := HK2.out; omega⟩, ⟨by repeat (first | (with_reducible first | exact HB.out | apply below_alloc | apply pw_below_drewN | apply below_drew1) | exact HB.out)⟩⟩
                · rw [if_neg c11] at H
                  exact absurd H (by simp)
              · rw [if_neg c9] at H
                have c9b0 : decide (x12_2 < (wrap64 (t426 - 1))) = false := decide_eq_false c9
                clear c9
                by_cases c14 : x11_2 = 0
                · rw [if_pos c14] at H
                  have c14b0 : (x11_2 == 0) = true := beq_iff_eq.mpr c14
                  have c14b1 : (x11_2 != 0) = false := bne_eq_false_iff_eq.mpr c14
                  clear c14
                  by_cases c15 : x10_1 > 0
                  · rw [if_pos c15] at H
                    have c15b0 : decide (0 < x10_1) = true := decide_eq_true c15
                    clear c15
                    replace H := Option.bind_eq_some_iff.mp H
                    obtain ⟨t428, A160, H⟩ := H
                    replace H : (plexuslaw23_BoundTight.l0 k2 a1 true (wrap64 (2 + (Int.tmod (wrap64 (a0)) 3))) (wrap64 (t426 - 1)) (wrap64 (x8_1 + 1)) (mn x9_1 t428) (wrap64 (x10_1 + 1))) = some r := H
                    have A16 := Aside0.mk A160
                    clear A160
                    obtain ⟨ji17, hji17⟩ : ∃ j_ : Int, (mn x9_1 t428) = j_ := ⟨_, rfl⟩
                    replace H : (plexuslaw23_BoundTight.l0 k2 a1 true (wrap64 (2 + (Int.tmod (wrap64 (a0)) 3))) (wrap64 (t426 - 1)) (wrap64 (x8_1 + 1)) ji17 (wrap64 (x10_1 + 1))) = some r := by first | (rw [hji17] at H; exact H) | (simp only [hji17] at H ⊢; exact H)
                    (try rw [hji17] at A16)
                    have hji17_ : (if t428 < x9_1 then t428 else x9_1) = ji17 := hji17
                    have H' := Aside0.mk H
                    clear H
                    go_wp2_with (first | ((with_reducible refine gate_callee (f := 53) rfl ?_); refine goesL_ (some 55) rfl rfl Try.func53 (by kernel_rfl) rfl #[.int .i64 x10_1] rfl (by (try simp only [List.map_toArray, List.map_cons, List.map_nil]); first | done | rfl | (simp only [List.length_drop, List.length_take]; rfl)) ?_; (with_reducible refine (plexusref23_Weight.calls k2 x10_1 t428 _ A16.out).mono ?_); rintro e w' ⟨rfl, ⟨nd, rfl⟩⟩; refine ⟨_, rfl, ?_⟩))
                    go_roundg k2
                    case measure => have := HK1.out; have := HK2.out; omega
                    case rel => exact ⟨(wrap64 (x8_1 + 1)), (ji17), (wrap64 (x10_1 + 1)), (by first | rfl | (simp; done) | (simp [*]; done)), (by first | rfl | (simp; done) | (simp only [← hji17] <;> (first | rfl | simp)) | (simp [*]; done)), (by first | rfl | (simp; done) | (simp [*]; done)), H', ⟨by have := HK1.out; have := HK2.out; omega⟩, ⟨by repeat (first | (with_reducible first | exact HB.out | apply below_alloc | apply pw_below_drewN | apply below_drew1) | exact HB.out)⟩⟩
                  · rw [if_neg c15] at H
                    have c15b0 : decide (0 < x10_1) = false := decide_eq_false c15
                    clear c15
                    have H' := Aside0.mk H
                    clear H
                    go_wp2
                    go_roundg k2
                    case measure => have := HK1.out; have := HK2.out; omega
                    case rel => exact ⟨(wrap64 (x8_1 + 1)), (x9_1), (wrap64 (x10_1 + 1)), (by first | rfl | (simp; done) | (simp [*]; done)), (by first | rfl | (simp; done) | (simp [*]; done)), (by first | rfl | (simp; done) | (simp [*]; done)), H', ⟨by have := HK1.out; have := HK2.out; omega⟩, ⟨by repeat (first | (with_reducible first | exact HB.out | apply below_alloc | apply pw_below_drewN | apply below_drew1) | exact HB.out)⟩⟩
                · rw [if_neg c14] at H
                  have c14b0 : (x11_2 == 0) = false := beq_eq_false_iff_ne.mpr c14
                  have c14b1 : (x11_2 != 0) = true := bne_iff_ne.mpr c14
                  have H' := Aside0.mk H
                  clear H
                  go_wp2
                  go_roundg k2
                  case measure => have := HK1.out; have := HK2.out; omega
                  case rel => exact ⟨(x8_1), (x9_1), (wrap64 (x10_1 + 1)), (by first | rfl | (simp; done) | (simp [*]; done)), (by first | rfl | (simp; done) | (simp [*]; done)), (by first | rfl | (simp; done) | (simp [*]; done)), H', ⟨by have := HK1.out; have := HK2.out; omega⟩, ⟨by repeat (first | (with_reducible first | exact HB.out | apply below_alloc | apply pw_below_drewN | apply below_drew1) | exact HB.out)⟩⟩
        · rw [if_neg c8] at H
          have c8b0 : decide (x10_1 < t427) = false := decide_eq_false c8
          clear c8
          by_cases c18 : x9_1 = 3
          · rw [if_pos c18] at H
            have c18b0 : (x9_1 == 3) = true := beq_iff_eq.mpr c18
            have c18b1 : (x9_1 != 3) = false := bne_eq_false_iff_eq.mpr c18
            clear c18
            replace H := Option.bind_eq_some_iff.mp H
            obtain ⟨⟨t429, t430⟩, A190, H⟩ := H
            replace H : ((plexuslaw23_is.f x8_1).bind fun bt431 => (if (!(t429 == bt431.1) || (!(t430 == bt431.2))) = true then (none) else ((plexuslaw23_best.f k1 (wrap64 (t426 - 1)) 3).bind fun bt433 => ((plexuslaw23_is.f x8_1).bind fun bt435 => (if (!(bt433.1 == bt435.1) || (!(bt433.2 == bt435.2))) = true then (none) else ((plexusref23_Power.f (wrap64 ((wrap64 (2 + (Int.tmod (wrap64 (a0)) 3))) - 1))).bind fun t437 => ((plexuslaw23_plotkin.f k1 (wrap64 (t426 - 1)) t437).bind fun bt438 => ((plexusref23_Power.f (wrap64 (2 + (Int.tmod (wrap64 (a0)) 3)))).bind fun t440 => ((plexuslaw23_is.f t440).bind fun bt441 => (if (!(bt438.1 == bt441.1) || (!(bt438.2 == bt441.2))) = true then (none) else ((plexusref23_Power.f (wrap64 ((wrap64 (2 + (Int.tmod (wrap64 (a0)) 3))) - 1))).bind fun t443 => ((plexuslaw23_griesmer.f k1 (wrap64 (2 + (Int.tmod (wrap64 (a0)) 3))) t443).bind fun bt444 => ((plexuslaw23_is.f (wrap64 (t426 - 1))).bind fun bt446 => (if (!(bt444.1 == bt446.1) || (!(bt444.2 == bt446.2))) = true then (none) else ((plexusref23_Power.f (wrap64 ((wrap64 (2 + (Int.tmod (wrap64 (a0)) 3))) - 1))).bind fun t448 => ((plexuslaw23_best.f k1 (wrap64 (t426 - 1)) t448).bind fun bt449 => ((plexusref23_Power.f (wrap64 (2 + (Int.tmod (wrap64 (a0)) 3)))).bind fun t451 => ((plexuslaw23_is.f t451).bind fun bt452 => (if (!(bt449.1 == bt452.1) || (!(bt449.2 == bt452.2))) = true then (none) else (plexuslaw23_BoundTight.l2 k1 true (wrap64 (2 + (Int.tmod (wrap64 (a1)) 15))) 0 0)))))))))))))))))))) = some r := H
            have A19 := Aside0.mk A190
            clear A190
            replace H := Option.bind_eq_some_iff.mp H
            obtain ⟨⟨t431, t432⟩, A200, H⟩ := H
            replace H : (if (!(t429 == t431) || (!(t430 == t432))) = true then (none) else ((plexuslaw23_best.f k1 (wrap64 (t426 - 1)) 3).bind fun bt433 => ((plexuslaw23_is.f x8_1).bind fun bt435 => (if (!(bt433.1 == bt435.1) || (!(bt433.2 == bt435.2))) = true then (none) else ((plexusref23_Power.f (wrap64 ((wrap64 (2 + (Int.tmod (wrap64 (a0)) 3))) - 1))).bind fun t437 => ((plexuslaw23_plotkin.f k1 (wrap64 (t426 - 1)) t437).bind fun bt438 => ((plexusref23_Power.f (wrap64 (2 + (Int.tmod (wrap64 (a0)) 3)))).bind fun t440 => ((plexuslaw23_is.f t440).bind fun bt441 => (if (!(bt438.1 == bt441.1) || (!(bt438.2 == bt441.2))) = true then (none) else ((plexusref23_Power.f (wrap64 ((wrap64 (2 + (Int.tmod (wrap64 (a0)) 3))) - 1))).bind fun t443 => ((plexuslaw23_griesmer.f k1 (wrap64 (2 + (Int.tmod (wrap64 (a0)) 3))) t443).bind fun bt444 => ((plexuslaw23_is.f (wrap64 (t426 - 1))).bind fun bt446 => (if (!(bt444.1 == bt446.1) || (!(bt444.2 == bt446.2))) = true then (none) else ((plexusref23_Power.f (wrap64 ((wrap64 (2 + (Int.tmod (wrap64 (a0)) 3))) - 1))).bind fun t448 => ((plexuslaw23_best.f k1 (wrap64 (t426 - 1)) t448).bind fun bt449 => ((plexusref23_Power.f (wrap64 (2 + (Int.tmod (wrap64 (a0)) 3)))).bind fun t451 => ((plexuslaw23_is.f t451).bind fun bt452 => (if (!(bt449.1 == bt452.1) || (!(bt449.2 == bt452.2))) = true then (none) else (plexuslaw23_BoundTight.l2 k1 true (wrap64 (2 + (Int.tmod (wrap64 (a1)) 15))) 0 0))))))))))))))))))) = some r := H
            have A20 := Aside0.mk A200
            clear A200
            by_cases c21 : (!(t429 == t431) || (!(t430 == t432))) = true
            · rw [if_pos c21] at H
              exact absurd H (by simp)
            · rw [if_neg c21] at H
              have c21b0 : (!(t429 == t431) || (!(t430 == t432))) = false := by simpa using c21
              clear c21
              replace H := Option.bind_eq_some_iff.mp H
              obtain ⟨⟨t433, t434⟩, A220, H⟩ := H
              replace H : ((plexuslaw23_is.f x8_1).bind fun bt435 => (if (!(t433 == bt435.1) || (!(t434 == bt435.2))) = true then (none) else ((plexusref23_Power.f (wrap64 ((wrap64 (2 + (Int.tmod (wrap64 (a0)) 3))) - 1))).bind fun t437 => ((plexuslaw23_plotkin.f k1 (wrap64 (t426 - 1)) t437).bind fun bt438 => ((plexusref23_Power.f (wrap64 (2 + (Int.tmod (wrap64 (a0)) 3)))).bind fun t440 => ((plexuslaw23_is.f t440).bind fun bt441 => (if (!(bt438.1 == bt441.1) || (!(bt438.2 == bt441.2))) = true then (none) else ((plexusref23_Power.f (wrap64 ((wrap64 (2 + (Int.tmod (wrap64 (a0)) 3))) - 1))).bind fun t443 => ((plexuslaw23_griesmer.f k1 (wrap64 (2 + (Int.tmod (wrap64 (a0)) 3))) t443).bind fun bt444 => ((plexuslaw23_is.f (wrap64 (t426 - 1))).bind fun bt446 => (if (!(bt444.1 == bt446.1) || (!(bt444.2 == bt446.2))) = true then (none) else ((plexusref23_Power.f (wrap64 ((wrap64 (2 + (Int.tmod (wrap64 (a0)) 3))) - 1))).bind fun t448 => ((plexuslaw23_best.f k1 (wrap64 (t426 - 1)) t448).bind fun bt449 => ((plexusref23_Power.f (wrap64 (2 + (Int.tmod (wrap64 (a0)) 3)))).bind fun t451 => ((plexuslaw23_is.f t451).bind fun bt452 => (if (!(bt449.1 == bt452.1) || (!(bt449.2 == bt452.2))) = true then (none) else (plexuslaw23_BoundTight.l2 k1 true (wrap64 (2 + (Int.tmod (wrap64 (a1)) 15))) 0 0))))))))))))))))) = some r := H
              have A22 := Aside0.mk A220
              clear A220
              replace H := Option.bind_eq_some_iff.mp H
              obtain ⟨⟨t435, t436⟩, A230, H⟩ := H
              replace H : (if (!(t433 == t435) || (!(t434 == t436))) = true then (none) else ((plexusref23_Power.f (wrap64 ((wrap64 (2 + (Int.tmod (wrap64 (a0)) 3))) - 1))).bind fun t437 => ((plexuslaw23_plotkin.f k1 (wrap64 (t426 - 1)) t437).bind fun bt438 => ((plexusref23_Power.f (wrap64 (2 + (Int.tmod (wrap64 (a0)) 3)))).bind fun t440 => ((plexuslaw23_is.f t440).bind fun bt441 => (if (!(bt438.1 == bt441.1) || (!(bt438.2 == bt441.2))) = true then (none) else ((plexusref23_Power.f (wrap64 ((wrap64 (2 + (Int.tmod (wrap64 (a0)) 3))) - 1))).bind fun t443 => ((plexuslaw23_griesmer.f k1 (wrap64 (2 + (Int.tmod (wrap64 (a0)) 3))) t443).bind fun bt444 => ((plexuslaw23_is.f (wrap64 (t426 - 1))).bind fun bt446 => (if (!(bt444.1 == bt446.1) || (!(bt444.2 == bt446.2))) = true then (none) else ((plexusref23_Power.f (wrap64 ((wrap64 (2 + (Int.tmod (wrap64 (a0)) 3))) - 1))).bind fun t448 => ((plexuslaw23_best.f k1 (wrap64 (t426 - 1)) t448).bind fun bt449 => ((plexusref23_Power.f (wrap64 (2 + (Int.tmod (wrap64 (a0)) 3)))).bind fun t451 => ((plexuslaw23_is.f t451).bind fun bt452 => (if (!(bt449.1 == bt452.1) || (!(bt449.2 == bt452.2))) = true then (none) else (plexuslaw23_BoundTight.l2 k1 true (wrap64 (2 + (Int.tmod (wrap64 (a1)) 15))) 0 0)))))))))))))))) = some r := H
              have A23 := Aside0.mk A230
              clear A230
              by_cases c24 : (!(t433 == t435) || (!(t434 == t436))) = true
              · rw [if_pos c24] at H
                exact absurd H (by simp)
              · rw [if_neg c24] at H
                have c24b0 : (!(t433 == t435) || (!(t434 == t436))) = false := by simpa using c24
                clear c24
                replace H := Option.bind_eq_some_iff.mp H
                obtain ⟨t437, A250, H⟩ := H
                replace H : ((plexuslaw23_plotkin.f k1 (wrap64 (t426 - 1)) t437).bind fun bt438 => ((plexusref23_Power.f (wrap64 (2 + (Int.tmod (wrap64 (a0)) 3)))).bind fun t440 => ((plexuslaw23_is.f t440).bind fun bt441 => (if (!(bt438.1 == bt441.1) || (!(bt438.2 == bt441.2))) = true then (none) else ((plexusref23_Power.f (wrap64 ((wrap64 (2 + (Int.tmod (wrap64 (a0)) 3))) - 1))).bind fun t443 => ((plexuslaw23_griesmer.f k1 (wrap64 (2 + (Int.tmod (wrap64 (a0)) 3))) t443).bind fun bt444 => ((plexuslaw23_is.f (wrap64 (t426 - 1))).bind fun bt446 => (if (!(bt444.1 == bt446.1) || (!(bt444.2 == bt446.2))) = true then (none) else ((plexusref23_Power.f (wrap64 ((wrap64 (2 + (Int.tmod (wrap64 (a0)) 3))) - 1))).bind fun t448 => ((plexuslaw23_best.f k1 (wrap64 (t426 - 1)) t448).bind fun bt449 => ((plexusref23_Power.f (wrap64 (2 + (Int.tmod (wrap64 (a0)) 3)))).bind fun t451 => ((plexuslaw23_is.f t451).bind fun bt452 => (if (!(bt449.1 == bt452.1) || (!(bt449.2 == bt452.2))) = true then (none) else (plexuslaw23_BoundTight.l2 k1 true (wrap64 (2 + (Int.tmod (wrap64 (a1)) 15))) 0 0)))))))))))))) = some r := H
                have A25 := Aside0.mk A250
                clear A250
                replace H := Option.bind_eq_some_iff.mp H
                obtain ⟨⟨t438, t439⟩, A260, H⟩ := H
                replace H : ((plexusref23_Power.f (wrap64 (2 + (Int.tmod (wrap64 (a0)) 3)))).bind fun t440 => ((plexuslaw23_is.f t440).bind fun bt441 => (if (!(t438 == bt441.1) || (!(t439 == bt441.2))) = true then (none) else ((plexusref23_Power.f (wrap64 ((wrap64 (2 + (Int.tmod (wrap64 (a0)) 3))) - 1))).bind fun t443 => ((plexuslaw23_griesmer.f k1 (wrap64 (2 + (Int.tmod (wrap64 (a0)) 3))) t443).bind fun bt444 => ((plexuslaw23_is.f (wrap64 (t426 - 1))).bind fun bt446 => (if (!(bt444.1 == bt446.1) || (!(bt444.2 == bt446.2))) = true then (none) else ((plexusref23_Power.f (wrap64 ((wrap64 (2 + (Int.tmod (wrap64 (a0)) 3))) - 1))).bind fun t448 => ((plexuslaw23_best.f k1 (wrap64 (t426 - 1)) t448).bind fun bt449 => ((plexusref23_Power.f (wrap64 (2 + (Int.tmod (wrap64 (a0)) 3)))).bind fun t451 => ((plexuslaw23_is.f t451).bind fun bt452 => (if (!(bt449.1 == bt452.1) || (!(bt449.2 == bt452.2))) = true then (none) else (plexuslaw23_BoundTight.l2 k1 true (wrap64 (2 + (Int.tmod (wrap64 (a1)) 15))) 0 0))))))))))))) = some r := H
                have A26 := Aside0.mk A260
                clear A260
                replace H := Option.bind_eq_some_iff.mp H
                obtain ⟨t440, A270, H⟩ := H
                replace H : ((plexuslaw23_is.f t440).bind fun bt441 => (if (!(t438 == bt441.1) || (!(t439 == bt441.2))) = true then (none) else ((plexusref23_Power.f (wrap64 ((wrap64 (2 + (Int.tmod (wrap64 (a0)) 3))) - 1))).bind fun t443 => ((plexuslaw23_griesmer.f k1 (wrap64 (2 + (Int.tmod (wrap64 (a0)) 3))) t443).bind fun bt444 => ((plexuslaw23_is.f (wrap64 (t426 - 1))).bind fun bt446 => (if (!(bt444.1 == bt446.1) || (!(bt444.2 == bt446.2))) = true then (none) else ((plexusref23_Power.f (wrap64 ((wrap64 (2 + (Int.tmod (wrap64 (a0)) 3))) - 1))).bind fun t448 => ((plexuslaw23_best.f k1 (wrap64 (t426 - 1)) t448).bind fun bt449 => ((plexusref23_Power.f (wrap64 (2 + (Int.tmod (wrap64 (a0)) 3)))).bind fun t451 => ((plexuslaw23_is.f t451).bind fun bt452 => (if (!(bt449.1 == bt452.1) || (!(bt449.2 == bt452.2))) = true then (none) else (plexuslaw23_BoundTight.l2 k1 true (wrap64 (2 + (Int.tmod (wrap64 (a1)) 15))) 0 0)))))))))))) = some r := H
                have A27 := Aside0.mk A270
                clear A270
                replace H := Option.bind_eq_some_iff.mp H
                obtain ⟨⟨t441, t442⟩, A280, H⟩ := H
                replace H : (if (!(t438 == t441) || (!(t439 == t442))) = true then (none) else ((plexusref23_Power.f (wrap64 ((wrap64 (2 + (Int.tmod (wrap64 (a0)) 3))) - 1))).bind fun t443 => ((plexuslaw23_griesmer.f k1 (wrap64 (2 + (Int.tmod (wrap64 (a0)) 3))) t443).bind fun bt444 => ((plexuslaw23_is.f (wrap64 (t426 - 1))).bind fun bt446 => (if (!(bt444.1 == bt446.1) || (!(bt444.2 == bt446.2))) = true then (none) else ((plexusref23_Power.f (wrap64 ((wrap64 (2 + (Int.tmod (wrap64 (a0)) 3))) - 1))).bind fun t448 => ((plexuslaw23_best.f k1 (wrap64 (t426 - 1)) t448).bind fun bt449 => ((plexusref23_Power.f (wrap64 (2 + (Int.tmod (wrap64 (a0)) 3)))).bind fun t451 => ((plexuslaw23_is.f t451).bind fun bt452 => (if (!(bt449.1 == bt452.1) || (!(bt449.2 == bt452.2))) = true then (none) else (plexuslaw23_BoundTight.l2 k1 true (wrap64 (2 + (Int.tmod (wrap64 (a1)) 15))) 0 0))))))))))) = some r := H
                have A28 := Aside0.mk A280
                clear A280
                by_cases c29 : (!(t438 == t441) || (!(t439 == t442))) = true
                · rw [if_pos c29] at H
                  exact absurd H (by simp)
                · rw [if_neg c29] at H
                  have c29b0 : (!(t438 == t441) || (!(t439 == t442))) = false := by simpa using c29
                  clear c29
                  replace H := Option.bind_eq_some_iff.mp H
                  obtain ⟨t443, A300, H⟩ := H
                  replace H : ((plexuslaw23_griesmer.f k1 (wrap64 (2 + (Int.tmod (wrap64 (a0)) 3))) t443).bind fun bt444 => ((plexuslaw23_is.f (wrap64 (t426 - 1))).bind fun bt446 => (if (!(bt444.1 == bt446.1) || (!(bt444.2 == bt446.2))) = true then (none) else ((plexusref23_Power.f (wrap64 ((wrap64 (2 + (Int.tmod (wrap64 (a0)) 3))) - 1))).bind fun t448 => ((plexuslaw23_best.f k1 (wrap64 (t426 - 1)) t448).bind fun bt449 => ((plexusref23_Power.f (wrap64 (2 + (Int.tmod (wrap64 (a0)) 3)))).bind fun t451 => ((plexuslaw23_is.f t451).bind fun bt452 => (if (!(bt449.1 == bt452.1) || (!(bt449.2 == bt452.2))) = true then (none) else (plexuslaw23_BoundTight.l2 k1 true (wrap64 (2 + (Int.tmod (wrap64 (a1)) 15))) 0 0))))))))) = some r := H
                  have A30 := Aside0.mk A300
                  clear A300
                  obtain rfl : t437 = t443 := by have h_ := A25.out.symm.trans A30.out; simpa using h_
                  replace H := Option.bind_eq_some_iff.mp H
                  obtain ⟨⟨t444, t445⟩, A310, H⟩ := H
                  replace H : ((plexuslaw23_is.f (wrap64 (t426 - 1))).bind fun bt446 => (if (!(t444 == bt446.1) || (!(t445 == bt446.2))) = true then (none) else ((plexusref23_Power.f (wrap64 ((wrap64 (2 + (Int.tmod (wrap64 (a0)) 3))) - 1))).bind fun t448 => ((plexuslaw23_best.f k1 (wrap64 (t426 - 1)) t448).bind fun bt449 => ((plexusref23_Power.f (wrap64 (2 + (Int.tmod (wrap64 (a0)) 3)))).bind fun t451 => ((plexuslaw23_is.f t451).bind fun bt452 => (if (!(bt449.1 == bt452.1) || (!(bt449.2 == bt452.2))) = true then (none) else (plexuslaw23_BoundTight.l2 k1 true (wrap64 (2 + (Int.tmod (wrap64 (a1)) 15))) 0 0)))))))) = some r := H
                  have A31 := Aside0.mk A310
                  clear A310
                  replace H := Option.bind_eq_some_iff.mp H
                  obtain ⟨⟨t446, t447⟩, A320, H⟩ := H
                  replace H : (if (!(t444 == t446) || (!(t445 == t447))) = true then (none) else ((plexusref23_Power.f (wrap64 ((wrap64 (2 + (Int.tmod (wrap64 (a0)) 3))) - 1))).bind fun t448 => ((plexuslaw23_best.f k1 (wrap64 (t426 - 1)) t448).bind fun bt449 => ((plexusref23_Power.f (wrap64 (2 + (Int.tmod (wrap64 (a0)) 3)))).bind fun t451 => ((plexuslaw23_is.f t451).bind fun bt452 => (if (!(bt449.1 == bt452.1) || (!(bt449.2 == bt452.2))) = true then (none) else (plexuslaw23_BoundTight.l2 k1 true (wrap64 (2 + (Int.tmod (wrap64 (a1)) 15))) 0 0))))))) = some r := H
                  have A32 := Aside0.mk A320
                  clear A320
                  by_cases c33 : (!(t444 == t446) || (!(t445 == t447))) = true
                  · rw [if_pos c33] at H
                    exact absurd H (by simp)
                  · rw [if_neg c33] at H
                    have c33b0 : (!(t444 == t446) || (!(t445 == t447))) = false := by simpa using c33
                    clear c33
                    replace H := Option.bind_eq_some_iff.mp H
                    obtain ⟨t448, A340, H⟩ := H
                    replace H : ((plexuslaw23_best.f k1 (wrap64 (t426 - 1)) t448).bind fun bt449 => ((plexusref23_Power.f (wrap64 (2 + (Int.tmod (wrap64 (a0)) 3)))).bind fun t451 => ((plexuslaw23_is.f t451).bind fun bt452 => (if (!(bt449.1 == bt452.1) || (!(bt449.2 == bt452.2))) = true then (none) else (plexuslaw23_BoundTight.l2 k1 true (wrap64 (2 + (Int.tmod (wrap64 (a1)) 15))) 0 0))))) = some r := H
                    have A34 := Aside0.mk A340
                    clear A340
                    obtain rfl : t437 = t448 := by have h_ := A25.out.symm.trans A34.out; simpa using h_
                    replace H := Option.bind_eq_some_iff.mp H
                    obtain ⟨⟨t449, t450⟩, A350, H⟩ := H
                    replace H : ((plexusref23_Power.f (wrap64 (2 + (Int.tmod (wrap64 (a0)) 3)))).bind fun t451 => ((plexuslaw23_is.f t451).bind fun bt452 => (if (!(t449 == bt452.1) || (!(t450 == bt452.2))) = true then (none) else (plexuslaw23_BoundTight.l2 k1 true (wrap64 (2 + (Int.tmod (wrap64 (a1)) 15))) 0 0)))) = some r := H
                    have A35 := Aside0.mk A350
                    clear A350
                    replace H := Option.bind_eq_some_iff.mp H
                    obtain ⟨t451, A360, H⟩ := H
                    replace H : ((plexuslaw23_is.f t451).bind fun bt452 => (if (!(t449 == bt452.1) || (!(t450 == bt452.2))) = true then (none) else (plexuslaw23_BoundTight.l2 k1 true (wrap64 (2 + (Int.tmod (wrap64 (a1)) 15))) 0 0))) = some r := H
                    have A36 := Aside0.mk A360
                    clear A360
                    obtain rfl : t440 = t451 := by have h_ := A27.out.symm.trans A36.out; simpa using h_
                    replace H := Option.bind_eq_some_iff.mp H
                    obtain ⟨⟨t452, t453⟩, A370, H⟩ := H
                    replace H : (if (!(t449 == t452) || (!(t450 == t453))) = true then (none) else (plexuslaw23_BoundTight.l2 k1 true (wrap64 (2 + (Int.tmod (wrap64 (a1)) 15))) 0 0)) = some r := H
                    have A37 := Aside0.mk A370
                    clear A370
                    by_cases c38 : (!(t449 == t452) || (!(t450 == t453))) = true
                    · rw [if_pos c38] at H
                      exact absurd H (by simp)
                    · rw [if_neg c38] at H
                      have c38b0 : (!(t449 == t452) || (!(t450 == t453))) = false := by simpa using c38
                      clear c38
                      have H' := Aside0.mk H
                      clear H
                      go_wp2_with (first | ((with_reducible refine gate_callee (f := 51) rfl ?_); refine goesL_ (some 28) rfl rfl Try.func51 (by kernel_rfl) rfl #[.int .i64 (wrap64 (t426 - 1))] rfl (by (try simp only [List.map_toArray, List.map_cons, List.map_nil]); first | done | rfl | (simp only [List.length_drop, List.length_take]; rfl)) ?_; (with_reducible refine (plexusref23_Power.calls (wrap64 (t426 - 1)) t427 _ A7.out).mono ?_); rintro e w' ⟨rfl, ⟨nd, rfl⟩⟩; refine ⟨_, rfl, ?_⟩) | (go_at_call 36; (with_reducible refine (plexuslaw23_sphere.calls k1 (wrap64 (t426 - 1)) 3 t429 t430 _ A19.out).mono ?_); rintro e w39 ⟨rfl, hb⟩; have n0_ := Aside0.mk (below_step (by repeat (first | (with_reducible first | exact HB.out | apply below_alloc | apply pw_below_drewN | apply below_drew1) | exact HB.out)) hb); clear HB; have HB := n0_; clear n0_; (try clear hb); (try clear hb2); (try clear hk); (try clear hi)) | (go_at_call 54; (with_reducible refine (plexuslaw23_is.calls x8_1 t431 t432 _ A20.out).mono ?_); rintro e w40 ⟨rfl, hb⟩; have n0_ := Aside0.mk (below_step (by repeat (first | (with_reducible first | exact HB.out | apply below_alloc | apply pw_below_drewN | apply below_drew1) | exact HB.out)) hb); clear HB; have HB := n0_; clear n0_; (try clear hb); (try clear hb2); (try clear hk); (try clear hi); clear A20) | (go_at_call 44; (with_reducible refine (plexuslaw23_best.calls k1 (wrap64 (t426 - 1)) 3 t433 t434 _ A22.out).mono ?_); rintro e w41 ⟨rfl, hb⟩; have n0_ := Aside0.mk (below_step (by repeat (first | (with_reducible first | exact HB.out | apply below_alloc | apply pw_below_drewN | apply below_drew1) | exact HB.out)) hb); clear HB; have HB := n0_; clear n0_; (try clear hb); (try clear hb2); (try clear hk); (try clear hi)) | (go_at_call 54; (with_reducible refine (plexuslaw23_is.calls x8_1 t435 t436 _ A23.out).mono ?_); rintro e w42 ⟨rfl, hb⟩; have n0_ := Aside0.mk (below_step (by repeat (first | (with_reducible first | exact HB.out | apply below_alloc | apply pw_below_drewN | apply below_drew1) | exact HB.out)) hb); clear HB; have HB := n0_; clear n0_; (try clear hb); (try clear hb2); (try clear hk); (try clear hi); clear A23) | ((with_reducible refine gate_callee (f := 51) rfl ?_); refine goesL_ (some 76) rfl rfl Try.func51 (by kernel_rfl) rfl #[.int .i64 (wrap64 ((wrap64 (2 + (Int.tmod (wrap64 (a0)) 3))) - 1))] rfl (by (try simp only [List.map_toArray, List.map_cons, List.map_nil]); first | done | rfl | (simp only [List.length_drop, List.length_take]; rfl)) ?_; (with_reducible refine (plexusref23_Power.calls (wrap64 ((wrap64 (2 + (Int.tmod (wrap64 (a0)) 3))) - 1)) t437 _ A25.out).mono ?_); rintro e w' ⟨rfl, ⟨nd, rfl⟩⟩; refine ⟨_, rfl, ?_⟩; clear A25) | ((with_reducible refine gate_callee (f := 40) rfl ?_); refine goesL_ (some 77) rfl rfl Try.func40 (by kernel_rfl) rfl #[.int .i64 (wrap64 (t426 - 1)), .int .i64 t437] rfl (by (try simp only [List.map_toArray, List.map_cons, List.map_nil]); first | done | rfl | (simp only [List.length_drop, List.length_take]; rfl)) ?_; (with_reducible refine (plexuslaw23_plotkin.calls k1 (wrap64 (t426 - 1)) t437 t438 t439 _ A26.out).mono ?_); rintro e w43 ⟨rfl, hb⟩; refine ⟨_, rfl, ?_⟩; have n0_ := Aside0.mk (below_step (by repeat (first | (with_reducible first | exact HB.out | apply below_alloc | apply pw_below_drewN | apply below_drew1) | exact HB.out)) hb); clear HB; have HB := n0_; clear n0_; (try clear hb); (try clear hb2); (try clear hk); (try clear hi)) | ((with_reducible refine gate_callee (f := 51) rfl ?_); refine goesL_ (some 79) rfl rfl Try.func51 (by kernel_rfl) rfl #[.int .i64 (wrap64 (2 + (Int.tmod (wrap64 (a0)) 3)))] rfl (by (try simp only [List.map_toArray, List.map_cons, List.map_nil]); first | done | rfl | (simp only [List.length_drop, List.length_take]; rfl)) ?_; (with_reducible refine (plexusref23_Power.calls (wrap64 (2 + (Int.tmod (wrap64 (a0)) 3))) t440 _ A27.out).mono ?_); rintro e w' ⟨rfl, ⟨nd, rfl⟩⟩; refine ⟨_, rfl, ?_⟩; clear A27) | ((with_reducible refine gate_callee (f := 54) rfl ?_); refine goesL_ (some 80) rfl rfl Try.func54 (by kernel_rfl) rfl #[.int .i64 t440] rfl (by (try simp only [List.map_toArray, List.map_cons, List.map_nil]); first | done | rfl | (simp only [List.length_drop, List.length_take]; rfl)) ?_; (with_reducible refine (plexuslaw23_is.calls t440 t441 t442 _ A28.out).mono ?_); rintro e w44 ⟨rfl, hb⟩; refine ⟨_, rfl, ?_⟩; have n0_ := Aside0.mk (below_step (by repeat (first | (with_reducible first | exact HB.out | apply below_alloc | apply pw_below_drewN | apply below_drew1) | exact HB.out)) hb); clear HB; have HB := n0_; clear n0_; (try clear hb); (try clear hb2); (try clear hk); (try clear hi); clear A28) | (go_at_call 51; (with_reducible refine (plexusref23_Power.calls (wrap64 ((wrap64 (2 + (Int.tmod (wrap64 (a0)) 3))) - 1)) t437 _ A30.out).mono ?_); rintro e w' ⟨rfl, ⟨nd, rfl⟩⟩; clear A30) | (go_at_call 42; (with_reducible refine (plexuslaw23_griesmer.calls k1 (wrap64 (2 + (Int.tmod (wrap64 (a0)) 3))) t437 t444 t445 _ A31.out).mono ?_); rintro e w45 ⟨rfl, hb⟩; have n0_ := Aside0.mk (below_step (by repeat (first | (with_reducible first | exact HB.out | apply below_alloc | apply pw_below_drewN | apply below_drew1) | exact HB.out)) hb); clear HB; have HB := n0_; clear n0_; (try clear hb); (try clear hb2); (try clear hk); (try clear hi)) | (go_at_call 54; (with_reducible refine (plexuslaw23_is.calls (wrap64 (t426 - 1)) t446 t447 _ A32.out).mono ?_); rintro e w46 ⟨rfl, hb⟩; have n0_ := Aside0.mk (below_step (by repeat (first | (with_reducible first | exact HB.out | apply below_alloc | apply pw_below_drewN | apply below_drew1) | exact HB.out)) hb); clear HB; have HB := n0_; clear n0_; (try clear hb); (try clear hb2); (try clear hk); (try clear hi)) | (go_at_call 51; (with_reducible refine (plexusref23_Power.calls (wrap64 ((wrap64 (2 + (Int.tmod (wrap64 (a0)) 3))) - 1)) t437 _ A34.out).mono ?_); rintro e w' ⟨rfl, ⟨nd, rfl⟩⟩; clear A34) | (go_at_call 44; (with_reducible refine (plexuslaw23_best.calls k1 (wrap64 (t426 - 1)) t437 t449 t450 _ A35.out).mono ?_); rintro e w47 ⟨rfl, hb⟩; have n0_ := Aside0.mk (below_step (by repeat (first | (with_reducible first | exact HB.out | apply below_alloc | apply pw_below_drewN | apply below_drew1) | exact HB.out)) hb); clear HB; have HB := n0_; clear n0_; (try clear hb); (try clear hb2); (try clear hk); (try clear hi)) | (go_at_call 51; (with_reducible refine (plexusref23_Power.calls (wrap64 (2 + (Int.tmod (wrap64 (a0)) 3))) t440 _ A36.out).mono ?_); rintro e w' ⟨rfl, ⟨nd, rfl⟩⟩; clear A36) | (go_at_call 54; (with_reducible refine (plexuslaw23_is.calls t440 t452 t453 _ A37.out).mono ?_); rintro e w48 ⟨rfl, hb⟩; have n0_ := Aside0.mk (below_step (by repeat (first | (with_reducible first | exact HB.out | apply below_alloc | apply pw_below_drewN | apply below_drew1) | exact HB.out)) hb); clear HB; have HB := n0_; clear n0_; (try clear hb); (try clear hb2); (try clear hk); (try clear hi); clear A37))
                      go_loopg [14, 15] k1 (fun kq v14 v15 w' => ∃ (x14_2 : Int) (x15_2 : Int), v14 = .int .i64 x14_2 ∧ v15 = .int .i64 x15_2 ∧ Aside0 (plexuslaw23_BoundTight.l2 kq true (wrap64 (2 + (Int.tmod (wrap64 (a1)) 15))) x14_2 x15_2 = some r) ∧ Aside0 (kq ≤ k1) ∧ Aside0 (Below w.heap.size w w'))
                      case atStart => exact ⟨(0), (0), (by first | rfl | (simp; done) | (simp [*]; done)), (by first | rfl | (simp; done) | (simp [*]; done)), H', ⟨Nat.le_refl _⟩, ⟨by repeat (first | (with_reducible first | exact HB.out | apply below_alloc | apply pw_below_drewN | apply below_drew1) | exact HB.out)⟩⟩
                      case round =>
                        clear H'
                        try clear c1
                        try clear c2
                        try clear p2
                        try clear c3
                        try clear c4
                        try clear c5
                        try clear p6
                        try clear c8
                        try clear c8b0
                        try clear c9
                        try clear c9b0
                        try clear c11
                        try clear c11b0
                        try clear c11b1
                        try clear c13
                        try clear c13b0
                        try clear c13b1
                        try clear c14
                        try clear c14b0
                        try clear c14b1
                        try clear c15
                        try clear c15b0
                        try clear c18
                        try clear c18b0
                        try clear c18b1
                        try clear c21
                        try clear c21b0
                        try clear c24
                        try clear c24b0
                        try clear c29
                        try clear c29b0
                        try clear c33
                        try clear c33b0
                        try clear c35
                        try clear c38
                        try clear c38b0
                        try clear c40
                        try clear p2
                        try clear p6
                        obtain ⟨x14_2, x15_2, rfl, rfl, HA, HK2, HB⟩ := hrel
                        cases gk with
                        | zero => exact absurd HA.out (by simp [plexuslaw23_BoundTight.l2])
                        | succ k2 =>
                          have H := HA.out
                          clear HA
                          simp only [plexuslaw23_BoundTight.l2] at H
                          replace H := Option.bind_eq_some_iff.mp H
                          obtain ⟨t454, A490, H⟩ := H
                          replace H : (if x15_2 < t454 then ((plexusref23_Weight.f k2 x15_2).bind fun t455 => (if (Int.tmod t455 2) = 0 then (plexuslaw23_BoundTight.l2 k2 true (wrap64 (2 + (Int.tmod (wrap64 (a1)) 15))) (wrap64 (x14_2 + 1)) (wrap64 (x15_2 + 1))) else (plexuslaw23_BoundTight.l2 k2 true (wrap64 (2 + (Int.tmod (wrap64 (a1)) 15))) x14_2 (wrap64 (x15_2 + 1))))) else (if true = true then ((plexuslaw23_singleton.f (wrap64 (2 + (Int.tmod (wrap64 (a1)) 15))) 2).bind fun bt456 => ((plexuslaw23_is.f x14_2).bind fun bt458 => (if (bt456.1 == bt458.1 && (bt456.2 == bt458.2)) = true then ((plexuslaw23_best.f k2 (wrap64 (2 + (Int.tmod (wrap64 (a1)) 15))) 2).bind fun bt460 => ((plexuslaw23_is.f x14_2).bind fun bt462 => (if (bt460.1 == bt462.1 && (bt460.2 == bt462.2)) = true then ((plexuslaw23_best.f k2 (wrap64 (2 + (Int.tmod (wrap64 (a1)) 15))) (wrap64 (2 + (Int.tmod (wrap64 (a1)) 15)))).bind fun bt464 => ((plexuslaw23_is.f 2).bind fun bt466 => (if (bt464.1 == bt466.1 && (bt464.2 == bt466.2)) = true then ((plexuslaw23_plotkin.f k2 (wrap64 (2 + (Int.tmod (wrap64 (a1)) 15))) (wrap64 (2 + (Int.tmod (wrap64 (a1)) 15)))).bind fun bt468 => ((plexuslaw23_is.f 2).bind fun bt470 => (if (bt468.1 == bt470.1 && (bt468.2 == bt470.2)) = true then ((plexuslaw23_singleton.f (wrap64 (2 + (Int.tmod (wrap64 (a1)) 15))) (wrap64 (2 + (Int.tmod (wrap64 (a1)) 15)))).bind fun bt472 => ((plexuslaw23_is.f 2).bind fun bt474 => (if (bt472.1 == bt474.1 && (bt472.2 == bt474.2)) = true then (if (Int.tmod (wrap64 (2 + (Int.tmod (wrap64 (a1)) 15))) 2) = 0 then (some true) else ((plexuslaw23_sphere.f k2 (wrap64 (2 + (Int.tmod (wrap64 (a1)) 15))) (wrap64 (2 + (Int.tmod (wrap64 (a1)) 15)))).bind fun bt476 => ((plexuslaw23_is.f 2).bind fun bt478 => (some (bt476.1 == bt478.1 && (bt476.2 == bt478.2)))))) else (none)))) else (none)))) else (none)))) else (none)))) else (none)))) else (none))) = some r := H
                          have A49 := Aside0.mk A490
                          clear A490
                          by_cases c50 : x15_2 < t454
                          · rw [if_pos c50] at H
                            have c50b0 : decide (x15_2 < t454) = true := decide_eq_true c50
                            clear c50
                            replace H := Option.bind_eq_some_iff.mp H
                            obtain ⟨t455, A510, H⟩ := H
                            replace H : (if (Int.tmod t455 2) = 0 then (plexuslaw23_BoundTight.l2 k2 true (wrap64 (2 + (Int.tmod (wrap64 (a1)) 15))) (wrap64 (x14_2 + 1)) (wrap64 (x15_2 + 1))) else (plexuslaw23_BoundTight.l2 k2 true (wrap64 (2 + (Int.tmod (wrap64 (a1)) 15))) x14_2 (wrap64 (x15_2 + 1)))) = some r := H
                            have A51 := Aside0.mk A510
                            clear A510
                            by_cases c52 : (Int.tmod t455 2) = 0
                            · rw [if_pos c52] at H
                              have c52b0 : ((Int.tmod t455 2) == 0) = true := beq_iff_eq.mpr c52
                              have c52b1 : ((Int.tmod t455 2) != 0) = false := bne_eq_false_iff_eq.mpr c52
                              clear c52
                              have H' := Aside0.mk H
                              clear H
                              go_wp2_with (first | ((with_reducible refine gate_callee (f := 51) rfl ?_); refine goesL_ (some 109) rfl rfl Try.func51 (by kernel_rfl) rfl #[.int .i64 (wrap64 (2 + (Int.tmod (wrap64 (a1)) 15)))] rfl (by (try simp only [List.map_toArray, List.map_cons, List.map_nil]); first | done | rfl | (simp only [List.length_drop, List.length_take]; rfl)) ?_; (with_reducible refine (plexusref23_Power.calls (wrap64 (2 + (Int.tmod (wrap64 (a1)) 15))) t454 _ A49.out).mono ?_); rintro e w' ⟨rfl, ⟨nd, rfl⟩⟩; refine ⟨_, rfl, ?_⟩) | ((with_reducible refine gate_callee (f := 53) rfl ?_); refine goesL_ (some 114) rfl rfl Try.func53 (by kernel_rfl) rfl #[.int .i64 x15_2] rfl (by (try simp only [List.map_toArray, List.map_cons, List.map_nil]); first | done | rfl | (simp only [List.length_drop, List.length_take]; rfl)) ?_; (with_reducible refine (plexusref23_Weight.calls k2 x15_2 t455 _ A51.out).mono ?_); rintro e w' ⟨rfl, ⟨nd, rfl⟩⟩; refine ⟨_, rfl, ?_⟩))
                              go_roundg k2
                              case measure => have := HK1.out; have := HK2.out; omega
                              case rel => exact ⟨(wrap64 (x14_2 + 1)), (wrap64 (x15_2 + 1)), (by first | rfl | (simp; done) | (simp [*]; done)), (by first | rfl | (simp; done) | (simp [*]; done)), H', ⟨by have := HK1.out; have := HK2.out; omega⟩, ⟨by repeat (first | (with_reducible first | exact HB.out | apply below_alloc | apply pw_below_drewN | apply below_drew1) | exact HB.out)⟩⟩
                            · rw [if_neg c52] at H
                              have c52b0 : ((Int.tmod t455 2) == 0) = false := beq_eq_false_iff_ne.mpr c52
                              have c52b1 : ((Int.tmod t455 2) != 0) = true := bne_iff_ne.mpr c52
                              have H' := Aside0.mk H
                              clear H
                              go_wp2_with (first | ((with_reducible refine gate_callee (f := 51) rfl ?_); refine goesL_ (some 109) rfl rfl Try.func51 (by kernel_rfl) rfl #[.int .i64 (wrap64 (2 + (Int.tmod (wrap64 (a1)) 15)))] rfl (by (try simp only [List.map_toArray, List.map_cons, List.map_nil]); first | done | rfl | (simp only [List.length_drop, List.length_take]; rfl)) ?_; (with_reducible refine (plexusref23_Power.calls (wrap64 (2 + (Int.tmod (wrap64 (a1)) 15))) t454 _ A49.out).mono ?_); rintro e w' ⟨rfl, ⟨nd, rfl⟩⟩; refine ⟨_, rfl, ?_⟩) | ((with_reducible refine gate_callee (f := 53) rfl ?_); refine goesL_ (some 114) rfl rfl Try.func53 (by kernel_rfl) rfl #[.int .i64 x15_2] rfl (by (try simp only [List.map_toArray, List.map_cons, List.map_nil]); first | done | rfl | (simp only [List.length_drop, List.length_take]; rfl)) ?_; (with_reducible refine (plexusref23_Weight.calls k2 x15_2 t455 _ A51.out).mono ?_); rintro e w' ⟨rfl, ⟨nd, rfl⟩⟩; refine ⟨_, rfl, ?_⟩))
                              go_roundg k2
                              case measure => have := HK1.out; have := HK2.out; omega
                              case rel => exact ⟨(x14_2), (wrap64 (x15_2 + 1)), (by first | rfl | (simp; done) | (simp [*]; done)), (by first | rfl | (simp; done) | (simp [*]; done)), H', ⟨by have := HK1.out; have := HK2.out; omega⟩, ⟨by repeat (first | (with_reducible first | exact HB.out | apply below_alloc | apply pw_below_drewN | apply below_drew1) | exact HB.out)⟩⟩
                          · rw [if_neg c50] at H
                            have c50b0 : decide (x15_2 < t454) = false := decide_eq_false c50
                            clear c50
                            replace H : ((plexuslaw23_singleton.f (wrap64 (2 + (Int.tmod (wrap64 (a1)) 15))) 2).bind fun bt456 => ((plexuslaw23_is.f x14_2).bind fun bt458 => (if (bt456.1 == bt458.1 && (bt456.2 == bt458.2)) = true then ((plexuslaw23_best.f k2 (wrap64 (2 + (Int.tmod (wrap64 (a1)) 15))) 2).bind fun bt460 => ((plexuslaw23_is.f x14_2).bind fun bt462 => (if (bt460.1 == bt462.1 && (bt460.2 == bt462.2)) = true then ((plexuslaw23_best.f k2 (wrap64 (2 + (Int.tmod (wrap64 (a1)) 15))) (wrap64 (2 + (Int.tmod (wrap64 (a1)) 15)))).bind fun bt464 => ((plexuslaw23_is.f 2).bind fun bt466 => (if (bt464.1 == bt466.1 && (bt464.2 == bt466.2)) = true then ((plexuslaw23_plotkin.f k2 (wrap64 (2 + (Int.tmod (wrap64 (a1)) 15))) (wrap64 (2 + (Int.tmod (wrap64 (a1)) 15)))).bind fun bt468 => ((plexuslaw23_is.f 2).bind fun bt470 => (if (bt468.1 == bt470.1 && (bt468.2 == bt470.2)) = true then ((plexuslaw23_singleton.f (wrap64 (2 + (Int.tmod (wrap64 (a1)) 15))) (wrap64 (2 + (Int.tmod (wrap64 (a1)) 15)))).bind fun bt472 => ((plexuslaw23_is.f 2).bind fun bt474 => (if (bt472.1 == bt474.1 && (bt472.2 == bt474.2)) = true then (if (Int.tmod (wrap64 (2 + (Int.tmod (wrap64 (a1)) 15))) 2) = 0 then (some true) else ((plexuslaw23_sphere.f k2 (wrap64 (2 + (Int.tmod (wrap64 (a1)) 15))) (wrap64 (2 + (Int.tmod (wrap64 (a1)) 15)))).bind fun bt476 => ((plexuslaw23_is.f 2).bind fun bt478 => (some (bt476.1 == bt478.1 && (bt476.2 == bt478.2)))))) else (none)))) else (none)))) else (none)))) else (none)))) else (none)))) = some r := by rw [if_pos rfl] at H; exact H
                            replace H := Option.bind_eq_some_iff.mp H
                            obtain ⟨⟨t456, t457⟩, A530, H⟩ := H
                            replace H : ((plexuslaw23_is.f x14_2).bind fun bt458 => (if (t456 == bt458.1 && (t457 == bt458.2)) = true then ((plexuslaw23_best.f k2 (wrap64 (2 + (Int.tmod (wrap64 (a1)) 15))) 2).bind fun bt460 => ((plexuslaw23_is.f x14_2).bind fun bt462 => (if (bt460.1 == bt462.1 && (bt460.2 == bt462.2)) = true then ((plexuslaw23_best.f k2 (wrap64 (2 + (Int.tmod (wrap64 (a1)) 15))) (wrap64 (2 + (Int.tmod (wrap64 (a1)) 15)))).bind fun bt464 => ((plexuslaw23_is.f 2).bind fun bt466 => (if (bt464.1 == bt466.1 && (bt464.2 == bt466.2)) = true then ((plexuslaw23_plotkin.f k2 (wrap64 (2 + (Int.tmod (wrap64 (a1)) 15))) (wrap64 (2 + (Int.tmod (wrap64 (a1)) 15)))).bind fun bt468 => ((plexuslaw23_is.f 2).bind fun bt470 => (if (bt468.1 == bt470.1 && (bt468.2 == bt470.2)) = true then ((plexuslaw23_singleton.f (wrap64 (2 + (Int.tmod (wrap64 (a1)) 15))) (wrap64 (2 + (Int.tmod (wrap64 (a1)) 15)))).bind fun bt472 => ((plexuslaw23_is.f 2).bind fun bt474 => (if (bt472.1 == bt474.1 && (bt472.2 == bt474.2)) = true then (if (Int.tmod (wrap64 (2 + (Int.tmod (wrap64 (a1)) 15))) 2) = 0 then (some true) else ((plexuslaw23_sphere.f k2 (wrap64 (2 + (Int.tmod (wrap64 (a1)) 15))) (wrap64 (2 + (Int.tmod (wrap64 (a1)) 15)))).bind fun bt476 => ((plexuslaw23_is.f 2).bind fun bt478 => (some (bt476.1 == bt478.1 && (bt476.2 == bt478.2)))))) else (none)))) else (none)))) else (none)))) else (none)))) else (none))) = some r := H
                            have A53 := Aside0.mk A530
                            clear A530
                            replace H := Option.bind_eq_some_iff.mp H
                            obtain ⟨⟨t458, t459⟩, A540, H⟩ := H
                            replace H : (if (t456 == t458 && (t457 == t459)) = true then ((plexuslaw23_best.f k2 (wrap64 (2 + (Int.tmod (wrap64 (a1)) 15))) 2).bind fun bt460 => ((plexuslaw23_is.f x14_2).bind fun bt462 => (if (bt460.1 == bt462.1 && (bt460.2 == bt462.2)) = true then ((plexuslaw23_best.f k2 (wrap64 (2 + (Int.tmod (wrap64 (a1)) 15))) (wrap64 (2 + (Int.tmod (wrap64 (a1)) 15)))).bind fun bt464 => ((plexuslaw23_is.f 2).bind fun bt466 => (if (bt464.1 == bt466.1 && (bt464.2 == bt466.2)) = true then ((plexuslaw23_plotkin.f k2 (wrap64 (2 + (Int.tmod (wrap64 (a1)) 15))) (wrap64 (2 + (Int.tmod (wrap64 (a1)) 15)))).bind fun bt468 => ((plexuslaw23_is.f 2).bind fun bt470 => (if (bt468.1 == bt470.1 && (bt468.2 == bt470.2)) = true then ((plexuslaw23_singleton.f (wrap64 (2 + (Int.tmod (wrap64 (a1)) 15))) (wrap64 (2 + (Int.tmod (wrap64 (a1)) 15)))).bind fun bt472 => ((plexuslaw23_is.f 2).bind fun bt474 => (if (bt472.1 == bt474.1 && (bt472.2 == bt474.2)) = true then (if (Int.tmod (wrap64 (2 + (Int.tmod (wrap64 (a1)) 15))) 2) = 0 then (some true) else ((plexuslaw23_sphere.f k2 (wrap64 (2 + (Int.tmod (wrap64 (a1)) 15))) (wrap64 (2 + (Int.tmod (wrap64 (a1)) 15)))).bind fun bt476 => ((plexuslaw23_is.f 2).bind fun bt478 => (some (bt476.1 == bt478.1 && (bt476.2 == bt478.2)))))) else (none)))) else (none)))) else (none)))) else (none)))) else (none)) = some r := H
                            have A54 := Aside0.mk A540
                            clear A540
                            by_cases c55 : (t456 == t458 && (t457 == t459)) = true
                            · rw [if_pos c55] at H
                              have c55b0 : (t456 == t458 && (t457 == t459)) = true := c55
                              (try (have c55b1 : decide (t456 = t458 && (t457 == t459)) = true := by simpa using c55))
                              (try (have c55b2 : (t456 == t458 && (t457 == t459)) = true := by simpa using c55))
                              clear c55
                              replace H := Option.bind_eq_some_iff.mp H
                              obtain ⟨⟨t460, t461⟩, A560, H⟩ := H
                              replace H : ((plexuslaw23_is.f x14_2).bind fun bt462 => (if (t460 == bt462.1 && (t461 == bt462.2)) = true then ((plexuslaw23_best.f k2 (wrap64 (2 + (Int.tmod (wrap64 (a1)) 15))) (wrap64 (2 + (Int.tmod (wrap64 (a1)) 15)))).bind fun bt464 => ((plexuslaw23_is.f 2).bind fun bt466 => (if (bt464.1 == bt466.1 && (bt464.2 == bt466.2)) = true then ((plexuslaw23_plotkin.f k2 (wrap64 (2 + (Int.tmod (wrap64 (a1)) 15))) (wrap64 (2 + (Int.tmod (wrap64 (a1)) 15)))).bind fun bt468 => ((plexuslaw23_is.f 2).bind fun bt470 => (if (bt468.1 == bt470.1 && (bt468.2 == bt470.2)) = true then ((plexuslaw23_singleton.f (wrap64 (2 + (Int.tmod (wrap64 (a1)) 15))) (wrap64 (2 + (Int.tmod (wrap64 (a1)) 15)))).bind fun bt472 => ((plexuslaw23_is.f 2).bind fun bt474 => (if (bt472.1 == bt474.1 && (bt472.2 == bt474.2)) = true then (if (Int.tmod (wrap64 (2 + (Int.tmod (wrap64 (a1)) 15))) 2) = 0 then (some true) else ((plexuslaw23_sphere.f k2 (wrap64 (2 + (Int.tmod (wrap64 (a1)) 15))) (wrap64 (2 + (Int.tmod (wrap64 (a1)) 15)))).bind fun bt476 => ((plexuslaw23_is.f 2).bind fun bt478 => (some (bt476.1 == bt478.1 && (bt476.2 == bt478.2)))))) else (none)))) else (none)))) else (none)))) else (none))) = some r := H
                              have A56 := Aside0.mk A560
                              clear A560
                              replace H := Option.bind_eq_some_iff.mp H
                              obtain ⟨⟨t462, t463⟩, A570, H⟩ := H
                              replace H : (if (t460 == t462 && (t461 == t463)) = true then ((plexuslaw23_best.f k2 (wrap64 (2 + (Int.tmod (wrap64 (a1)) 15))) (wrap64 (2 + (Int.tmod (wrap64 (a1)) 15)))).bind fun bt464 => ((plexuslaw23_is.f 2).bind fun bt466 => (if (bt464.1 == bt466.1 && (bt464.2 == bt466.2)) = true then ((plexuslaw23_plotkin.f k2 (wrap64 (2 + (Int.tmod (wrap64 (a1)) 15))) (wrap64 (2 + (Int.tmod (wrap64 (a1)) 15)))).bind fun bt468 => ((plexuslaw23_is.f 2).bind fun bt470 => (if (bt468.1 == bt470.1 && (bt468.2 == bt470.2)) = true then ((plexuslaw23_singleton.f (wrap64 (2 + (Int.tmod (wrap64 (a1)) 15))) (wrap64 (2 + (Int.tmod (wrap64 (a1)) 15)))).bind fun bt472 => ((plexuslaw23_is.f 2).bind fun bt474 => (if (bt472.1 == bt474.1 && (bt472.2 == bt474.2)) = true then (if (Int.tmod (wrap64 (2 + (Int.tmod (wrap64 (a1)) 15))) 2) = 0 then (some true) else ((plexuslaw23_sphere.f k2 (wrap64 (2 + (Int.tmod (wrap64 (a1)) 15))) (wrap64 (2 + (Int.tmod (wrap64 (a1)) 15)))).bind fun bt476 => ((plexuslaw23_is.f 2).bind fun bt478 => (some (bt476.1 == bt478.1 && (bt476.2 == bt478.2)))))) else (none)))) else (none)))) else (none)))) else (none)) = some r := H
                              have A57 := Aside0.mk A570
                              clear A570
                              by_cases c58 : (t460 == t462 && (t461 == t463)) = true
                              · rw [if_pos c58] at H
                                have c58b0 : (t460 == t462 && (t461 == t463)) = true := c58
                                (try (have c58b1 : decide (t460 = t462 && (t461 == t463)) = true := by simpa using c58))
                                (try (have c58b2 : (t460 == t462 && (t461 == t463)) = true := by simpa using c58))
                                clear c58
                                replace H := Option.bind_eq_some_iff.mp H
                                obtain ⟨⟨t464, t465⟩, A590, H⟩ := H
                                replace H : ((plexuslaw23_is.f 2).bind fun bt466 => (if (t464 == bt466.1 && (t465 == bt466.2)) = true then ((plexuslaw23_plotkin.f k2 (wrap64 (2 + (Int.tmod (wrap64 (a1)) 15))) (wrap64 (2 + (Int.tmod (wrap64 (a1)) 15)))).bind fun bt468 => ((plexuslaw23_is.f 2).bind fun bt470 => (if (bt468.1 == bt470.1 && (bt468.2 == bt470.2)) = true then ((plexuslaw23_singleton.f (wrap64 (2 + (Int.tmod (wrap64 (a1)) 15))) (wrap64 (2 + (Int.tmod (wrap64 (a1)) 15)))).bind fun bt472 => ((plexuslaw23_is.f 2).bind fun bt474 => (if (bt472.1 == bt474.1 && (bt472.2 == bt474.2)) = true then (if (Int.tmod (wrap64 (2 + (Int.tmod (wrap64 (a1)) 15))) 2) = 0 then (some true) else ((plexuslaw23_sphere.f k2 (wrap64 (2 + (Int.tmod (wrap64 (a1)) 15))) (wrap64 (2 + (Int.tmod (wrap64 (a1)) 15)))).bind fun bt476 => ((plexuslaw23_is.f 2).bind fun bt478 => (some (bt476.1 == bt478.1 && (bt476.2 == bt478.2)))))) else (none)))) else (none)))) else (none))) = some r := H
                                have A59 := Aside0.mk A590
                                clear A590
                                replace H := Option.bind_eq_some_iff.mp H
                                obtain ⟨⟨t466, t467⟩, A600, H⟩ := H
                                replace H : (if (t464 == t466 && (t465 == t467)) = true then ((plexuslaw23_plotkin.f k2 (wrap64 (2 + (Int.tmod (wrap64 (a1)) 15))) (wrap64 (2 + (Int.tmod (wrap64 (a1)) 15)))).bind fun bt468 => ((plexuslaw23_is.f 2).bind fun bt470 => (if (bt468.1 == bt470.1 && (bt468.2 == bt470.2)) = true then ((plexuslaw23_singleton.f (wrap64 (2 + (Int.tmod (wrap64 (a1)) 15))) (wrap64 (2 + (Int.tmod (wrap64 (a1)) 15)))).bind fun bt472 => ((plexuslaw23_is.f 2).bind fun bt474 => (if (bt472.1 == bt474.1 && (bt472.2 == bt474.2)) = true then (if (Int.tmod (wrap64 (2 + (Int.tmod (wrap64 (a1)) 15))) 2) = 0 then (some true) else ((plexuslaw23_sphere.f k2 (wrap64 (2 + (Int.tmod (wrap64 (a1)) 15))) (wrap64 (2 + (Int.tmod (wrap64 (a1)) 15)))).bind fun bt476 => ((plexuslaw23_is.f 2).bind fun bt478 => (some (bt476.1 == bt478.1 && (bt476.2 == bt478.2)))))) else (none)))) else (none)))) else (none)) = some r := H
                                have A60 := Aside0.mk A600
                                clear A600
                                by_cases c61 : (t464 == t466 && (t465 == t467)) = true
                                · rw [if_pos c61] at H
                                  have c61b0 : (t464 == t466 && (t465 == t467)) = true := c61
                                  (try (have c61b1 : decide (t464 = t466 && (t465 == t467)) = true := by simpa using c61))
                                  (try (have c61b2 : (t464 == t466 && (t465 == t467)) = true := by simpa using c61))
                                  clear c61
                                  replace H := Option.bind_eq_some_iff.mp H
                                  obtain ⟨⟨t468, t469⟩, A620, H⟩ := H
                                  replace H : ((plexuslaw23_is.f 2).bind fun bt470 => (if (t468 == bt470.1 && (t469 == bt470.2)) = true then ((plexuslaw23_singleton.f (wrap64 (2 + (Int.tmod (wrap64 (a1)) 15))) (wrap64 (2 + (Int.tmod (wrap64 (a1)) 15)))).bind fun bt472 => ((plexuslaw23_is.f 2).bind fun bt474 => (if (bt472.1 == bt474.1 && (bt472.2 == bt474.2)) = true then (if (Int.tmod (wrap64 (2 + (Int.tmod (wrap64 (a1)) 15))) 2) = 0 then (some true) else ((plexuslaw23_sphere.f k2 (wrap64 (2 + (Int.tmod (wrap64 (a1)) 15))) (wrap64 (2 + (Int.tmod (wrap64 (a1)) 15)))).bind fun bt476 => ((plexuslaw23_is.f 2).bind fun bt478 => (some (bt476.1 == bt478.1 && (bt476.2 == bt478.2)))))) else (none)))) else (none))) = some r := H
                                  have A62 := Aside0.mk A620
                                  clear A620
                                  replace H := Option.bind_eq_some_iff.mp H
                                  obtain ⟨⟨t470, t471⟩, A630, H⟩ := H
                                  replace H : (if (t468 == t470 && (t469 == t471)) = true then ((plexuslaw23_singleton.f (wrap64 (2 + (Int.tmod (wrap64 (a1)) 15))) (wrap64 (2 + (Int.tmod (wrap64 (a1)) 15)))).bind fun bt472 => ((plexuslaw23_is.f 2).bind fun bt474 => (if (bt472.1 == bt474.1 && (bt472.2 == bt474.2)) = true then (if (Int.tmod (wrap64 (2 + (Int.tmod (wrap64 (a1)) 15))) 2) = 0 then (some true) else ((plexuslaw23_sphere.f k2 (wrap64 (2 + (Int.tmod (wrap64 (a1)) 15))) (wrap64 (2 + (Int.tmod (wrap64 (a1)) 15)))).bind fun bt476 => ((plexuslaw23_is.f 2).bind fun bt478 => (some (bt476.1 == bt478.1 && (bt476.2 == bt478.2)))))) else (none)))) else (none)) = some r := H
                                  have A63 := Aside0.mk A630
                                  clear A630
                                  by_cases c64 : (t468 == t470 && (t469 == t471)) = true
                                  · rw [if_pos c64] at H
                                    have c64b0 : (t468 == t470 && (t469 == t471)) = true := c64
                                    (try (have c64b1 : decide (t468 = t470 && (t469 == t471)) = true := by simpa using c64))
                                    (try (have c64b2 : (t468 == t470 && (t469 == t471)) = true := by simpa using c64))
                                    clear c64
                                    replace H := Option.bind_eq_some_iff.mp H
                                    obtain ⟨⟨t472, t473⟩, A650, H⟩ := H
                                    replace H : ((plexuslaw23_is.f 2).bind fun bt474 => (if (t472 == bt474.1 && (t473 == bt474.2)) = true then (if (Int.tmod (wrap64 (2 + (Int.tmod (wrap64 (a1)) 15))) 2) = 0 then (some true) else ((plexuslaw23_sphere.f k2 (wrap64 (2 + (Int.tmod (wrap64 (a1)) 15))) (wrap64 (2 + (Int.tmod (wrap64 (a1)) 15)))).bind fun bt476 => ((plexuslaw23_is.f 2).bind fun bt478 => (some (bt476.1 == bt478.1 && (bt476.2 == bt478.2)))))) else (none))) = some r := H
                                    have A65 := Aside0.mk A650
                                    clear A650
                                    replace H := Option.bind_eq_some_iff.mp H
                                    obtain ⟨⟨t474, t475⟩, A660, H⟩ := H
                                    replace H : (if (t472 == t474 && (t473 == t475)) = true then (if (Int.tmod (wrap64 (2 + (Int.tmod (wrap64 (a1)) 15))) 2) = 0 then (some true) else ((plexuslaw23_sphere.f k2 (wrap64 (2 + (Int.tmod (wrap64 (a1)) 15))) (wrap64 (2 + (Int.tmod (wrap64 (a1)) 15)))).bind fun bt476 => ((plexuslaw23_is.f 2).bind fun bt478 => (some (bt476.1 == bt478.1 && (bt476.2 == bt478.2)))))) else (none)) = some r := H
                                    have A66 := Aside0.mk A660
                                    clear A660
                                    by_cases c67 : (t472 == t474 && (t473 == t475)) = true
                                    · rw [if_pos c67] at H
                                      have c67b0 : (t472 == t474 && (t473 == t475)) = true := c67
                                      (try (have c67b1 : decide (t472 = t474 && (t473 == t475)) = true := by simpa using c67))
                                      (try (have c67b2 : (t472 == t474 && (t473 == t475)) = true := by simpa using c67))
                                      clear c67
                                      by_cases c68 : (Int.tmod (wrap64 (2 + (Int.tmod (wrap64 (a1)) 15))) 2) = 0
                                      · rw [if_pos c68] at H
                                        have c68b0 : ((Int.tmod (wrap64 (2 + (Int.tmod (wrap64 (a1)) 15))) 2) == 0) = true := beq_iff_eq.mpr c68
                                        have c68b1 : ((Int.tmod (wrap64 (2 + (Int.tmod (wrap64 (a1)) 15))) 2) != 0) = false := bne_eq_false_iff_eq.mpr c68
                                        clear c68
                                        obtain rfl := Option.some.inj H
                                        go_wp2_with (first | ((with_reducible refine gate_callee (f := 51) rfl ?_); refine goesL_ (some 109) rfl rfl Try.func51 (by kernel_rfl) rfl #[.int .i64 (wrap64 (2 + (Int.tmod (wrap64 (a1)) 15)))] rfl (by (try simp only [List.map_toArray, List.map_cons, List.map_nil]); first | done | rfl | (simp only [List.length_drop, List.length_take]; rfl)) ?_; (with_reducible refine (plexusref23_Power.calls (wrap64 (2 + (Int.tmod (wrap64 (a1)) 15))) t454 _ A49.out).mono ?_); rintro e w' ⟨rfl, ⟨nd, rfl⟩⟩; refine ⟨_, rfl, ?_⟩) | (go_at_call 38; (with_reducible refine (plexuslaw23_singleton.calls (wrap64 (2 + (Int.tmod (wrap64 (a1)) 15))) 2 t456 t457 _ A53.out).mono ?_); rintro e w69 ⟨rfl, hb⟩; have n0_ := Aside0.mk (below_step (by repeat (first | (with_reducible first | exact HB.out | apply below_alloc | apply pw_below_drewN | apply below_drew1) | exact HB.out)) hb); clear HB; have HB := n0_; clear n0_; (try clear hb); (try clear hb2); (try clear hk); (try clear hi)) | (go_at_call 54; (with_reducible refine (plexuslaw23_is.calls x14_2 t458 t459 _ A54.out).mono ?_); rintro e w70 ⟨rfl, hb⟩; have n0_ := Aside0.mk (below_step (by repeat (first | (with_reducible first | exact HB.out | apply below_alloc | apply pw_below_drewN | apply below_drew1) | exact HB.out)) hb); clear HB; have HB := n0_; clear n0_; (try clear hb); (try clear hb2); (try clear hk); (try clear hi); clear A54) | (go_at_call 44; (with_reducible refine (plexuslaw23_best.calls k2 (wrap64 (2 + (Int.tmod (wrap64 (a1)) 15))) 2 t460 t461 _ A56.out).mono ?_); rintro e w71 ⟨rfl, hb⟩; have n0_ := Aside0.mk (below_step (by repeat (first | (with_reducible first | exact HB.out | apply below_alloc | apply pw_below_drewN | apply below_drew1) | exact HB.out)) hb); clear HB; have HB := n0_; clear n0_; (try clear hb); (try clear hb2); (try clear hk); (try clear hi)) | (go_at_call 54; (with_reducible refine (plexuslaw23_is.calls x14_2 t462 t463 _ A57.out).mono ?_); rintro e w72 ⟨rfl, hb⟩; have n0_ := Aside0.mk (below_step (by repeat (first | (with_reducible first | exact HB.out | apply below_alloc | apply pw_below_drewN | apply below_drew1) | exact HB.out)) hb); clear HB; have HB := n0_; clear n0_; (try clear hb); (try clear hb2); (try clear hk); (try clear hi); clear A57) | (go_at_call 44; (with_reducible refine (plexuslaw23_best.calls k2 (wrap64 (2 + (Int.tmod (wrap64 (a1)) 15))) (wrap64 (2 + (Int.tmod (wrap64 (a1)) 15))) t464 t465 _ A59.out).mono ?_); rintro e w73 ⟨rfl, hb⟩; have n0_ := Aside0.mk (below_step (by repeat (first | (with_reducible first | exact HB.out | apply below_alloc | apply pw_below_drewN | apply below_drew1) | exact HB.out)) hb); clear HB; have HB := n0_; clear n0_; (try clear hb); (try clear hb2); (try clear hk); (try clear hi)) | (go_at_call 54; (with_reducible refine (plexuslaw23_is.calls 2 t466 t467 _ A60.out).mono ?_); rintro e w74 ⟨rfl, hb⟩; have n0_ := Aside0.mk (below_step (by repeat (first | (with_reducible first | exact HB.out | apply below_alloc | apply pw_below_drewN | apply below_drew1) | exact HB.out)) hb); clear HB; have HB := n0_; clear n0_; (try clear hb); (try clear hb2); (try clear hk); (try clear hi); clear A60) | (go_at_call 40; (with_reducible refine (plexuslaw23_plotkin.calls k2 (wrap64 (2 + (Int.tmod (wrap64 (a1)) 15))) (wrap64 (2 + (Int.tmod (wrap64 (a1)) 15))) t468 t469 _ A62.out).mono ?_); rintro e w75 ⟨rfl, hb⟩; have n0_ := Aside0.mk (below_step (by repeat (first | (with_reducible first | exact HB.out | apply below_alloc | apply pw_below_drewN | apply below_drew1) | exact HB.out)) hb); clear HB; have HB := n0_; clear n0_; (try clear hb); (try clear hb2); (try clear hk); (try clear hi)) | (go_at_call 54; (with_reducible refine (plexuslaw23_is.calls 2 t470 t471 _ A63.out).mono ?_); rintro e w76 ⟨rfl, hb⟩; have n0_ := Aside0.mk (below_step (by repeat (first | (with_reducible first | exact HB.out | apply below_alloc | apply pw_below_drewN | apply below_drew1) | exact HB.out)) hb); clear HB; have HB := n0_; clear n0_; (try clear hb); (try clear hb2); (try clear hk); (try clear hi); clear A63) | (go_at_call 38; (with_reducible refine (plexuslaw23_singleton.calls (wrap64 (2 + (Int.tmod (wrap64 (a1)) 15))) (wrap64 (2 + (Int.tmod (wrap64 (a1)) 15))) t472 t473 _ A65.out).mono ?_); rintro e w77 ⟨rfl, hb⟩; have n0_ := Aside0.mk (below_step (by repeat (first | (with_reducible first | exact HB.out | apply below_alloc | apply pw_below_drewN | apply below_drew1) | exact HB.out)) hb); clear HB; have HB := n0_; clear n0_; (try clear hb); (try clear hb2); (try clear hk); (try clear hi)) | (go_at_call 54; (with_reducible refine (plexuslaw23_is.calls 2 t474 t475 _ A66.out).mono ?_); rintro e w78 ⟨rfl, hb⟩; have n0_ := Aside0.mk (below_step (by repeat (first | (with_reducible first | exact HB.out | apply below_alloc | apply pw_below_drewN | apply below_drew1) | exact HB.out)) hb); clear HB; have HB := n0_; clear n0_; (try clear hb); (try clear hb2); (try clear hk); (try clear hi); clear A66))
                                        go_ret
                                        exact ⟨by first | rfl | (simp [errW_none, errW_some] <;> rfl) | (simp [*, errW_none, errW_some] <;> rfl), by repeat (first | (with_reducible first | exact HB.out | apply below_alloc | apply pw_below_drewN | apply below_drew1) | exact HB.out)⟩
                                      · rw [if_neg c68] at H
                                        have c68b0 : ((Int.tmod (wrap64 (2 + (Int.tmod (wrap64 (a1)) 15))) 2) == 0) = false := beq_eq_false_iff_ne.mpr c68
                                        have c68b1 : ((Int.tmod (wrap64 (2 + (Int.tmod (wrap64 (a1)) 15))) 2) != 0) = true := bne_iff_ne.mpr c68
                                        replace H := Option.bind_eq_some_iff.mp H
                                        obtain ⟨⟨t476, t477⟩, A790, H⟩ := H
                                        replace H : ((plexuslaw23_is.f 2).bind fun bt478 => (some (t476 == bt478.1 && (t477 == bt478.2)))) = some r := H
                                        have A79 := Aside0.mk A790
                                        clear A790
                                        replace H := Option.bind_eq_some_iff.mp H
                                        obtain ⟨⟨t478, t479⟩, A800, H⟩ := H
                                        replace H : (some (t476 == t478 && (t477 == t479))) = some r := H
                                        have A80 := Aside0.mk A800
                                        clear A800
                                        obtain rfl := Option.some.inj H
                                        go_wp2_with (first | ((with_reducible refine gate_callee (f := 51) rfl ?_); refine goesL_ (some 109) rfl rfl Try.func51 (by kernel_rfl) rfl #[.int .i64 (wrap64 (2 + (Int.tmod (wrap64 (a1)) 15)))] rfl (by (try simp only [List.map_toArray, List.map_cons, List.map_nil]); first | done | rfl | (simp only [List.length_drop, List.length_take]; rfl)) ?_; (with_reducible refine (plexusref23_Power.calls (wrap64 (2 + (Int.tmod (wrap64 (a1)) 15))) t454 _ A49.out).mono ?_); rintro e w' ⟨rfl, ⟨nd, rfl⟩⟩; refine ⟨_, rfl, ?_⟩) | (go_at_call 38; (with_reducible refine (plexuslaw23_singleton.calls (wrap64 (2 + (Int.tmod (wrap64 (a1)) 15))) 2 t456 t457 _ A53.out).mono ?_); rintro e w81 ⟨rfl, hb⟩; have n0_ := Aside0.mk (below_step (by repeat (first | (with_reducible first | exact HB.out | apply below_alloc | apply pw_below_drewN | apply below_drew1) | exact HB.out)) hb); clear HB; have HB := n0_; clear n0_; (try clear hb); (try clear hb2); (try clear hk); (try clear hi)) | (go_at_call 54; (with_reducible refine (plexuslaw23_is.calls x14_2 t458 t459 _ A54.out).mono ?_); rintro e w82 ⟨rfl, hb⟩; have n0_ := Aside0.mk (below_step (by repeat (first | (with_reducible first | exact HB.out | apply below_alloc | apply pw_below_drewN | apply below_drew1) | exact HB.out)) hb); clear HB; have HB := n0_; clear n0_; (try clear hb); (try clear hb2); (try clear hk); (try clear hi); clear A54) | (go_at_call 44; (with_reducible refine (plexuslaw23_best.calls k2 (wrap64 (2 + (Int.tmod (wrap64 (a1)) 15))) 2 t460 t461 _ A56.out).mono ?_); rintro e w83 ⟨rfl, hb⟩; have n0_ := Aside0.mk (below_step (by repeat (first | (with_reducible first | exact HB.out | apply below_alloc | apply pw_below_drewN | apply below_drew1) | exact HB.out)) hb); clear HB; have HB := n0_; clear n0_; (try clear hb); (try clear hb2); (try clear hk); (try clear hi)) | (go_at_call 54; (with_reducible refine (plexuslaw23_is.calls x14_2 t462 t463 _ A57.out).mono ?_); rintro e w84 ⟨rfl, hb⟩; have n0_ := Aside0.mk (below_step (by repeat (first | (with_reducible first | exact HB.out | apply below_alloc | apply pw_below_drewN | apply below_drew1) | exact HB.out)) hb); clear HB; have HB := n0_; clear n0_; (try clear hb); (try clear hb2); (try clear hk); (try clear hi); clear A57) | (go_at_call 44; (with_reducible refine (plexuslaw23_best.calls k2 (wrap64 (2 + (Int.tmod (wrap64 (a1)) 15))) (wrap64 (2 + (Int.tmod (wrap64 (a1)) 15))) t464 t465 _ A59.out).mono ?_); rintro e w85 ⟨rfl, hb⟩; have n0_ := Aside0.mk (below_step (by repeat (first | (with_reducible first | exact HB.out | apply below_alloc | apply pw_below_drewN | apply below_drew1) | exact HB.out)) hb); clear HB; have HB := n0_; clear n0_; (try clear hb); (try clear hb2); (try clear hk); (try clear hi)) | (go_at_call 54; (with_reducible refine (plexuslaw23_is.calls 2 t466 t467 _ A60.out).mono ?_); rintro e w86 ⟨rfl, hb⟩; have n0_ := Aside0.mk (below_step (by repeat (first | (with_reducible first | exact HB.out | apply below_alloc | apply pw_below_drewN | apply below_drew1) | exact HB.out)) hb); clear HB; have HB := n0_; clear n0_; (try clear hb); (try clear hb2); (try clear hk); (try clear hi); clear A60) | (go_at_call 40; (with_reducible refine (plexuslaw23_plotkin.calls k2 (wrap64 (2 + (Int.tmod (wrap64 (a1)) 15))) (wrap64 (2 + (Int.tmod (wrap64 (a1)) 15))) t468 t469 _ A62.out).mono ?_); rintro e w87 ⟨rfl, hb⟩; have n0_ := Aside0.mk (below_step (by repeat (first | (with_reducible first | exact HB.out | apply below_alloc | apply pw_below_drewN | apply below_drew1) | exact HB.out)) hb); clear HB; have HB := n0_; clear n0_; (try clear hb); (try clear hb2); (try clear hk); (try clear hi)) | (go_at_call 54; (with_reducible refine (plexuslaw23_is.calls 2 t470 t471 _ A63.out).mono ?_); rintro e w88 ⟨rfl, hb⟩; have n0_ := Aside0.mk (below_step (by repeat (first | (with_reducible first | exact HB.out | apply below_alloc | apply pw_below_drewN | apply below_drew1) | exact HB.out)) hb); clear HB; have HB := n0_; clear n0_; (try clear hb); (try clear hb2); (try clear hk); (try clear hi); clear A63) | (go_at_call 38; (with_reducible refine (plexuslaw23_singleton.calls (wrap64 (2 + (Int.tmod (wrap64 (a1)) 15))) (wrap64 (2 + (Int.tmod (wrap64 (a1)) 15))) t472 t473 _ A65.out).mono ?_); rintro e w89 ⟨rfl, hb⟩; have n0_ := Aside0.mk (below_step (by repeat (first | (with_reducible first | exact HB.out | apply below_alloc | apply pw_below_drewN | apply below_drew1) | exact HB.out)) hb); clear HB; have HB := n0_; clear n0_; (try clear hb); (try clear hb2); (try clear hk); (try clear hi)) | (go_at_call 54; (with_reducible refine (plexuslaw23_is.calls 2 t474 t475 _ A66.out).mono ?_); rintro e w90 ⟨rfl, hb⟩; have n0_ := Aside0.mk (below_step (by repeat (first | (with_reducible first | exact HB.out | apply below_alloc | apply pw_below_drewN | apply below_drew1) | exact HB.out)) hb); clear HB; have HB := n0_; clear n0_; (try clear hb); (try clear hb2); (try clear hk); (try clear hi); clear A66) | (go_at_call 36; (with_reducible refine (plexuslaw23_sphere.calls k2 (wrap64 (2 + (Int.tmod (wrap64 (a1)) 15))) (wrap64 (2 + (Int.tmod (wrap64 (a1)) 15))) t476 t477 _ A79.out).mono ?_); rintro e w91 ⟨rfl, hb⟩; have n0_ := Aside0.mk (below_step (by repeat (first | (with_reducible first | exact HB.out | apply below_alloc | apply pw_below_drewN | apply below_drew1) | exact HB.out)) hb); clear HB; have HB := n0_; clear n0_; (try clear hb); (try clear hb2); (try clear hk); (try clear hi)) | (go_at_call 54; (with_reducible refine (plexuslaw23_is.calls 2 t478 t479 _ A80.out).mono ?_); rintro e w92 ⟨rfl, hb⟩; have n0_ := Aside0.mk (below_step (by repeat (first | (with_reducible first | exact HB.out | apply below_alloc | apply pw_below_drewN | apply below_drew1) | exact HB.out)) hb); clear HB; have HB := n0_; clear n0_; (try clear hb); (try clear hb2); (try clear hk); (try clear hi); clear A80))
                                        go_ret
                                        exact ⟨by first | rfl | (simp [errW_none, errW_some] <;> rfl) | (simp [*, errW_none, errW_some] <;> rfl), by repeat (first | (with_reducible first | exact HB.out | apply below_alloc | apply pw_below_drewN | apply below_drew1) | exact HB.out)⟩
                                    · rw [if_neg c67] at H
                                      exact absurd H (by simp)
                                  · rw [if_neg c64] at H
                                    exact absurd H (by simp)
                                · rw [if_neg c61] at H
                                  exact absurd H (by simp)
                              · rw [if_neg c58] at H
                                exact absurd H (by simp)
                            · rw [if_neg c55] at H
                              exact absurd H (by simp)
          · rw [if_neg c18] at H
            exact absurd H (by simp)
  · replace c4 := Bool.eq_false_iff.mpr c4
    subst c4
    have H1 : (none) = some r := by rw [if_neg (show ¬ (false = true) by decide)] at H; exact H
    clear H
    have H := H1
    clear H1
    exact absurd H (by simp)

/-- THE ONE PURE STATEMENT of plexuslaw23_BoundTight. -/
def plexuslaw23_BoundTight.Pure : Prop := ∀ (a0 : Int) (a1 : Int), (Lit.int .u8 a0).wf = true → (Lit.int .u8 a1).wf = true → ∃ k, plexuslaw23_BoundTight.f k a0 a1 = some true
theorem plexuslaw23_BoundTight.walk (P : plexuslaw23_BoundTight.Pure) (w : World) (a0 : Int) (w0 : (Lit.int .u8 a0).wf = true) (a1 : Int) (w1 : (Lit.int .u8 a1).wf = true) :
    Calls Try.prog 15 #[.int .u8 a0, .int .u8 a1] w fun e w' => e = .returned (.bool true) ∧ Below w.heap.size w w' := by
  obtain ⟨k, h⟩ := P a0 a1 w0 w1
  refine (plexuslaw23_BoundTight.calls k a0 a1 true w  h).mono ?_
  rintro e w' ⟨rfl, hd⟩
  exact ⟨rfl, hd⟩

end Go.Proofs.Ytcanekmlabehgaa.P
