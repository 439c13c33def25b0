-- PRINTED by print.py (a twelfth state) out of the translation. Not trusted: Lean checks it.
import Derived.Test.YtcanekmlabehgaaPx0
import Derived.Test.YtcanekmlabehgaaPx2
import Derived.Test.YtcanekmlabehgaaPx3
import Derived.Test.YtcanekmlabehgaaPx5
namespace Go.Proofs.Ytcanekmlabehgaa.P
open Go.RowKit Go.Proofs.YtcanekmlabehgaaW.PrintWords Go.Proofs.YtcanekmlabehgaaW.PrintLast Go.Proofs.YtcanekmlabehgaaW.PrintMore
attribute [local go_sem] max2_int min2_int max_two min_two max_three min_three max_four min_four   -- for this text's walks alone
set_option linter.unusedVariables false
set_option linter.unusedSimpArgs false

/-! ### plexuslaw23_BoundWords: function 11 -/
def plexuslaw23_BoundWords.j0 : Nat → Bool → Int → Int → List Int → Bool → Option (Bool)
  | 0, _, _, _, _, _ => none
  | k + 1, x7, x8, x9, x10, x50 => if x50 = true then (none) else (if x7 = true then ((plexuslaw23_sphere.f k x8 x9).bind fun bt291 => ((plexuslaw23_below.f (x10.length : Int) bt291.1 bt291.2).bind fun t293 => (if t293 = true then ((plexuslaw23_singleton.f x8 x9).bind fun bt294 => ((plexuslaw23_below.f (x10.length : Int) bt294.1 bt294.2).bind fun t296 => (if t296 = true then ((plexuslaw23_best.f k x8 x9).bind fun bt297 => ((plexuslaw23_below.f (x10.length : Int) bt297.1 bt297.2).bind fun t299 => (some t299))) else (none)))) else (none)))) else (none))
def plexuslaw23_BoundWords.f (k : Nat) (a0 : Int) (a1 : Int) (a2_0 : Int) (a2_1 : Int) : Option (Bool) := (plexuslaw23_examples.f k).bind fun t284 => (if t284 = true then (if (wrap64 (1 + (Int.tmod (wrap64 (a0)) 10))) = 0 then (none) else ((plexusref23_Chosen.f k (wrap64 (1 + (Int.tmod (wrap64 (a0)) 10))) (wrap64 (1 + (Int.tmod (wrap64 (a1)) (wrap64 (1 + (Int.tmod (wrap64 (a0)) 10)))))) a2_0 a2_1).bind fun t285 => ((plexuslaw23_plotkin.f k (wrap64 (1 + (Int.tmod (wrap64 (a0)) 10))) (wrap64 (1 + (Int.tmod (wrap64 (a1)) (wrap64 (1 + (Int.tmod (wrap64 (a0)) 10))))))).bind fun bt288 => (if bt288.2 = 0 then (plexuslaw23_BoundWords.j0 k t284 (wrap64 (1 + (Int.tmod (wrap64 (a0)) 10))) (wrap64 (1 + (Int.tmod (wrap64 (a1)) (wrap64 (1 + (Int.tmod (wrap64 (a0)) 10)))))) t285 (decide ((t285.length : Int) > bt288.1))) else (if bt288.2 = 4 then (plexuslaw23_BoundWords.j0 k t284 (wrap64 (1 + (Int.tmod (wrap64 (a0)) 10))) (wrap64 (1 + (Int.tmod (wrap64 (a1)) (wrap64 (1 + (Int.tmod (wrap64 (a0)) 10)))))) t285 false) else (none)))))) else (none))
theorem plexuslaw23_BoundWords.mono_l : ∀ k, (∀ y0 y1 y2 y3 y4, LeO (plexuslaw23_BoundWords.j0 k y0 y1 y2 y3 y4) (plexuslaw23_BoundWords.j0 (k + 1) y0 y1 y2 y3 y4))
  | 0 => fun _ _ _ _ _ r h => by simp [plexuslaw23_BoundWords.j0] at h
  | k + 1 => by
    have ih0 := plexuslaw23_BoundWords.mono_l k
    · intro y0 y1 y2 y3 y4
      unfold plexuslaw23_BoundWords.j0
      repeat' first
      | (with_reducible exact ih0 _ _ _ _ _)
      | (with_reducible exact plexuslaw23_best.mono _ _ _)
      | (with_reducible exact plexuslaw23_examples.mono _)
      | (with_reducible exact plexuslaw23_plotkin.mono _ _ _)
      | (with_reducible exact plexuslaw23_sphere.mono _ _ _)
      | (with_reducible exact plexusref23_Chosen.mono _ _ _ _ _)
      | (with_reducible exact LeO.refl _)
      | (with_reducible exact LeO.none _)
      | (with_reducible refine LeO.ite ?_ ?_)
      | (with_reducible refine LeO.bind ?_ (fun _ => ?_))
      | exact ih0 _ _ _ _ _
      | exact plexuslaw23_best.mono _ _ _
      | exact plexuslaw23_examples.mono _
      | exact plexuslaw23_plotkin.mono _ _ _
      | exact plexuslaw23_sphere.mono _ _ _
      | exact plexusref23_Chosen.mono _ _ _ _ _
      | exact LeO.none _
      | refine LeO.ite ?_ ?_
      | refine LeO.bind ?_ (fun _ => ?_)
theorem plexuslaw23_BoundWords.mono : ∀ a0 a1 a2 a3 k, LeO (plexuslaw23_BoundWords.f k a0 a1 a2 a3) (plexuslaw23_BoundWords.f (k + 1) a0 a1 a2 a3) := by
  intro a0 a1 a2 a3 k
  have ih0 := plexuslaw23_BoundWords.mono_l k
  unfold plexuslaw23_BoundWords.f
  repeat' first
      | (with_reducible exact ih0 _ _ _ _ _)
      | (with_reducible exact plexuslaw23_best.mono _ _ _)
      | (with_reducible exact plexuslaw23_examples.mono _)
      | (with_reducible exact plexuslaw23_plotkin.mono _ _ _)
      | (with_reducible exact plexuslaw23_sphere.mono _ _ _)
      | (with_reducible exact plexusref23_Chosen.mono _ _ _ _ _)
      | (with_reducible exact LeO.refl _)
      | (with_reducible exact LeO.none _)
      | (with_reducible refine LeO.ite ?_ ?_)
      | (with_reducible refine LeO.bind ?_ (fun _ => ?_))
      | exact ih0 _ _ _ _ _
      | exact plexuslaw23_best.mono _ _ _
      | exact plexuslaw23_examples.mono _
      | exact plexuslaw23_plotkin.mono _ _ _
      | exact plexuslaw23_sphere.mono _ _ _
      | exact plexusref23_Chosen.mono _ _ _ _ _
      | exact LeO.none _
      | refine LeO.ite ?_ ?_
      | refine LeO.bind ?_ (fun _ => ?_)
set_option maxHeartbeats 8000000 in
set_option maxRecDepth 100000 in
theorem plexuslaw23_BoundWords.calls (k : Nat) (a0 : Int) (a1 : Int) (a2_0 : Int) (a2_1 : Int) (r : Bool) (w : World) (h : plexuslaw23_BoundWords.f k a0 a1 a2_0 a2_1 = some r) :
    Calls Try.prog 11 #[.int .u8 a0, .int .u8 a1, .agg #[.int .u16 a2_0, .int .u16 a2_1]] w fun e w' => e = .returned (.bool r) ∧ Below w.heap.size w w' := by
  have hu59 := Try.underlying59
  have hu52 := Try.underlying52
  have HB := Aside0.mk (Below.refl w.heap.size w)
  have H : ((plexuslaw23_examples.f k).bind fun t284 => (if t284 = true then (if (wrap64 (1 + (Int.tmod (wrap64 (a0)) 10))) = 0 then (none) else ((plexusref23_Chosen.f k (wrap64 (1 + (Int.tmod (wrap64 (a0)) 10))) (wrap64 (1 + (Int.tmod (wrap64 (a1)) (wrap64 (1 + (Int.tmod (wrap64 (a0)) 10)))))) a2_0 a2_1).bind fun t285 => ((plexuslaw23_plotkin.f k (wrap64 (1 + (Int.tmod (wrap64 (a0)) 10))) (wrap64 (1 + (Int.tmod (wrap64 (a1)) (wrap64 (1 + (Int.tmod (wrap64 (a0)) 10))))))).bind fun bt288 => (if bt288.2 = 0 then (plexuslaw23_BoundWords.j0 k t284 (wrap64 (1 + (Int.tmod (wrap64 (a0)) 10))) (wrap64 (1 + (Int.tmod (wrap64 (a1)) (wrap64 (1 + (Int.tmod (wrap64 (a0)) 10)))))) t285 (decide ((t285.length : Int) > bt288.1))) else (if bt288.2 = 4 then (plexuslaw23_BoundWords.j0 k t284 (wrap64 (1 + (Int.tmod (wrap64 (a0)) 10))) (wrap64 (1 + (Int.tmod (wrap64 (a1)) (wrap64 (1 + (Int.tmod (wrap64 (a0)) 10)))))) t285 false) else (none)))))) else (none))) = some r := h
  clear h
  replace H := Option.bind_eq_some_iff.mp H
  obtain ⟨t284, A40, H⟩ := H
  replace H : (if t284 = true then (if (wrap64 (1 + (Int.tmod (wrap64 (a0)) 10))) = 0 then (none) else ((plexusref23_Chosen.f k (wrap64 (1 + (Int.tmod (wrap64 (a0)) 10))) (wrap64 (1 + (Int.tmod (wrap64 (a1)) (wrap64 (1 + (Int.tmod (wrap64 (a0)) 10)))))) a2_0 a2_1).bind fun t285 => ((plexuslaw23_plotkin.f k (wrap64 (1 + (Int.tmod (wrap64 (a0)) 10))) (wrap64 (1 + (Int.tmod (wrap64 (a1)) (wrap64 (1 + (Int.tmod (wrap64 (a0)) 10))))))).bind fun bt288 => (if bt288.2 = 0 then (plexuslaw23_BoundWords.j0 k t284 (wrap64 (1 + (Int.tmod (wrap64 (a0)) 10))) (wrap64 (1 + (Int.tmod (wrap64 (a1)) (wrap64 (1 + (Int.tmod (wrap64 (a0)) 10)))))) t285 (decide ((t285.length : Int) > bt288.1))) else (if bt288.2 = 4 then (plexuslaw23_BoundWords.j0 k t284 (wrap64 (1 + (Int.tmod (wrap64 (a0)) 10))) (wrap64 (1 + (Int.tmod (wrap64 (a1)) (wrap64 (1 + (Int.tmod (wrap64 (a0)) 10)))))) t285 false) else (none)))))) else (none)) = some r := H
  have A4 := Aside0.mk A40
  clear A40
  by_cases c5 : t284 = true
  · subst c5
    have H1 : (if (wrap64 (1 + (Int.tmod (wrap64 (a0)) 10))) = 0 then (none) else ((plexusref23_Chosen.f k (wrap64 (1 + (Int.tmod (wrap64 (a0)) 10))) (wrap64 (1 + (Int.tmod (wrap64 (a1)) (wrap64 (1 + (Int.tmod (wrap64 (a0)) 10)))))) a2_0 a2_1).bind fun t285 => ((plexuslaw23_plotkin.f k (wrap64 (1 + (Int.tmod (wrap64 (a0)) 10))) (wrap64 (1 + (Int.tmod (wrap64 (a1)) (wrap64 (1 + (Int.tmod (wrap64 (a0)) 10))))))).bind fun bt288 => (if bt288.2 = 0 then (plexuslaw23_BoundWords.j0 k true (wrap64 (1 + (Int.tmod (wrap64 (a0)) 10))) (wrap64 (1 + (Int.tmod (wrap64 (a1)) (wrap64 (1 + (Int.tmod (wrap64 (a0)) 10)))))) t285 (decide ((t285.length : Int) > bt288.1))) else (if bt288.2 = 4 then (plexuslaw23_BoundWords.j0 k true (wrap64 (1 + (Int.tmod (wrap64 (a0)) 10))) (wrap64 (1 + (Int.tmod (wrap64 (a1)) (wrap64 (1 + (Int.tmod (wrap64 (a0)) 10)))))) t285 false) else (none)))))) = some r := by rw [if_pos rfl] at H; exact H
    clear H
    have H := H1
    clear H1
    by_cases c6 : (wrap64 (1 + (Int.tmod (wrap64 (a0)) 10))) = 0
    · rw [if_pos c6] at H
      exact absurd H (by simp)
    · rw [if_neg c6] at H
      have c6b0 : ((wrap64 (1 + (Int.tmod (wrap64 (a0)) 10))) == 0) = false := beq_eq_false_iff_ne.mpr c6
      have c6b1 : ((wrap64 (1 + (Int.tmod (wrap64 (a0)) 10))) != 0) = true := bne_iff_ne.mpr c6
      replace H := Option.bind_eq_some_iff.mp H
      obtain ⟨t285, A70, H⟩ := H
      replace H : ((plexuslaw23_plotkin.f k (wrap64 (1 + (Int.tmod (wrap64 (a0)) 10))) (wrap64 (1 + (Int.tmod (wrap64 (a1)) (wrap64 (1 + (Int.tmod (wrap64 (a0)) 10))))))).bind fun bt288 => (if bt288.2 = 0 then (plexuslaw23_BoundWords.j0 k true (wrap64 (1 + (Int.tmod (wrap64 (a0)) 10))) (wrap64 (1 + (Int.tmod (wrap64 (a1)) (wrap64 (1 + (Int.tmod (wrap64 (a0)) 10)))))) t285 (decide ((t285.length : Int) > bt288.1))) else (if bt288.2 = 4 then (plexuslaw23_BoundWords.j0 k true (wrap64 (1 + (Int.tmod (wrap64 (a0)) 10))) (wrap64 (1 + (Int.tmod (wrap64 (a1)) (wrap64 (1 + (Int.tmod (wrap64 (a0)) 10)))))) t285 false) else (none)))) = some r := H
      have A7 := Aside0.mk A70
      clear A70
      replace H := Option.bind_eq_some_iff.mp H
      obtain ⟨⟨t288, t289⟩, A80, H⟩ := H
      replace H : (if t289 = 0 then (plexuslaw23_BoundWords.j0 k true (wrap64 (1 + (Int.tmod (wrap64 (a0)) 10))) (wrap64 (1 + (Int.tmod (wrap64 (a1)) (wrap64 (1 + (Int.tmod (wrap64 (a0)) 10)))))) t285 (decide ((t285.length : Int) > t288))) else (if t289 = 4 then (plexuslaw23_BoundWords.j0 k true (wrap64 (1 + (Int.tmod (wrap64 (a0)) 10))) (wrap64 (1 + (Int.tmod (wrap64 (a1)) (wrap64 (1 + (Int.tmod (wrap64 (a0)) 10)))))) t285 false) else (none))) = some r := H
      have A8 := Aside0.mk A80
      clear A80
      have HC9 := Aside0.mk H
      clear H
      go_enter Try.func11, Try.ntmps11
      go_upto_region 8 with (first | ((with_reducible refine gate_dst (N := 5) rfl ?_); (try (refine gate_guard (by rfl) ?_; dsimp only)); refine box_event ?hg (N := 5) ?hd (cs := #[.int .u16 a2_0, .int .u16 a2_1]) (t := 59) ?hr ?_; (case hd => rfl); (case hg => rfl); (case hr => first | (go_simp; done) | (go_simp; rfl)); intro gb283 hg w10 hbox hb; have n0_ := Aside0.mk (below_step (by repeat (first | (with_reducible first | exact HB.out | apply below_alloc | apply pw_below_drewN | apply below_drew1) | exact HB.out)) hb); have n1_ := Aside0.mk (hbox); have n2_ := Aside0.mk ((by rw [hg]; exact (below_size (by repeat (first | (with_reducible first | exact HB.out | apply below_alloc | apply pw_below_drewN | apply below_drew1) | exact HB.out))) : w.heap.size ≤ gb283)); have n3_ := Aside0.mk ((by rw [hg]; exact (below_size (by repeat (first | (with_reducible first | exact HB.out | apply below_alloc | apply pw_below_drewN | apply below_drew1) | exact HB.out))) : w.heap.size ≤ gb283)); clear HB; have HB := n0_; have BK283 := n1_; have GW283 := n2_; have GE283 := n3_; clear n0_ n1_ n2_ n3_; clear hb hbox hg) | ((with_reducible refine gate_callee (f := 35) rfl ?_); refine goesL_ (some 12) rfl rfl Try.func35 (by kernel_rfl) rfl #[] rfl (by (try simp only [List.map_toArray, List.map_cons, List.map_nil]); first | done | rfl | (simp only [List.length_drop, List.length_take]; rfl)) ?_; (with_reducible refine (plexuslaw23_examples.calls k  true _ A4.out).mono ?_); rintro e w11 ⟨rfl, hb⟩; refine ⟨_, rfl, ?_⟩; have n0_ := Aside0.mk (blk_below (g := gb283) (o := .cells #[.int .u16 a2_0, .int .u16 a2_1] 59 (0, 0)) (by (with_reducible repeat (first | refine blk_drewN ?_ _ | refine blk_drew ?_ | refine blk_alloc ?_ _)); exact BK283.out) hb); have n1_ := Aside0.mk (below_step (by repeat (first | (with_reducible first | exact HB.out | apply below_alloc | apply pw_below_drewN | apply below_drew1 | refine below_set ?_ GE283.out) | exact HB.out)) hb); clear BK283; clear HB; have BK283 := n0_; have HB := n1_; clear n0_ n1_; (try clear hb); (try clear hb2); (try clear hk); (try clear hi); have hcz12_0 : w11.cell? ⟨gb283, 0, none⟩ = some (.int .u16 a2_0) := (blk_cell BK283.out 0).trans rfl; have hcz12_1 : w11.cell? ⟨gb283, 1, none⟩ = some (.int .u16 a2_1) := (blk_cell BK283.out 1).trans rfl; have hfz12_0 := blk_frozen BK283.out 0; have hfz12_1 := blk_frozen BK283.out 1) | ((with_reducible refine gate_callee (f := 49) rfl ?_); refine goesL_ (some 27) rfl rfl Try.func49 (by kernel_rfl) rfl #[.int .i64 (wrap64 (1 + (Int.tmod (wrap64 (a0)) 10))), .int .i64 (wrap64 (1 + (Int.tmod (wrap64 (a1)) (wrap64 (1 + (Int.tmod (wrap64 (a0)) 10)))))), .agg #[.int .u16 a2_0, .int .u16 a2_1]] rfl (by (try simp only [List.map_toArray, List.map_cons, List.map_nil]); first | done | rfl | (simp only [List.length_drop, List.length_take]; rfl)) ?_; (with_reducible refine (plexusref23_Chosen.calls k (wrap64 (1 + (Int.tmod (wrap64 (a0)) 10))) (wrap64 (1 + (Int.tmod (wrap64 (a1)) (wrap64 (1 + (Int.tmod (wrap64 (a0)) 10)))))) a2_0 a2_1 t285 _ A7.out).mono ?_); rintro e w13 ⟨v286, rfl, ho0, hb⟩; refine ⟨_, rfl, ?_⟩; have n0_ := Aside0.mk (Kd.R_lower ho0 (below_size (by repeat (first | (with_reducible first | exact HB.out | apply below_alloc | apply pw_below_drewN | apply below_drew1 | refine below_set ?_ GE283.out) | exact HB.out)))); have n1_ := Aside0.mk (blk_below (g := gb283) (o := .cells #[.int .u16 a2_0, .int .u16 a2_1] 59 (0, 0)) (by (with_reducible repeat (first | refine blk_drewN ?_ _ | refine blk_drew ?_ | refine blk_alloc ?_ _)); exact BK283.out) hb); have n2_ := Aside0.mk (below_step (by repeat (first | (with_reducible first | exact HB.out | apply below_alloc | apply pw_below_drewN | apply below_drew1 | refine below_set ?_ GE283.out) | exact HB.out)) hb); clear BK283; clear HB; have HO287 := n0_; have BK283 := n1_; have HB := n2_; clear n0_ n1_ n2_; (try clear hb); (try clear hb2); (try clear hk); (try clear hi); (try clear ho0)) | ((with_reducible refine gate_callee (f := 40) rfl ?_); refine goesL_ (some 30) rfl rfl Try.func40 (by kernel_rfl) rfl #[.int .i64 (wrap64 (1 + (Int.tmod (wrap64 (a0)) 10))), .int .i64 (wrap64 (1 + (Int.tmod (wrap64 (a1)) (wrap64 (1 + (Int.tmod (wrap64 (a0)) 10))))))] rfl (by (try simp only [List.map_toArray, List.map_cons, List.map_nil]); first | done | rfl | (simp only [List.length_drop, List.length_take]; rfl)) ?_; (with_reducible refine (plexuslaw23_plotkin.calls k (wrap64 (1 + (Int.tmod (wrap64 (a0)) 10))) (wrap64 (1 + (Int.tmod (wrap64 (a1)) (wrap64 (1 + (Int.tmod (wrap64 (a0)) 10)))))) t288 t289 _ A8.out).mono ?_); rintro e w14 ⟨rfl, hb⟩; refine ⟨_, rfl, ?_⟩; have n0_ := Aside0.mk (Kd.R_below (by (with_reducible repeat (first | apply Kd.R_alloc | apply Kd.R_drewN | apply Kd.R_drew)); exact HO287.out) hb); have n1_ := Aside0.mk (blk_below (g := gb283) (o := .cells #[.int .u16 a2_0, .int .u16 a2_1] 59 (0, 0)) (by (with_reducible repeat (first | refine blk_drewN ?_ _ | refine blk_drew ?_ | refine blk_alloc ?_ _)); exact BK283.out) hb); have n2_ := Aside0.mk (below_step (by repeat (first | (with_reducible first | exact HB.out | apply below_alloc | apply pw_below_drewN | apply below_drew1 | refine below_set ?_ GE283.out) | exact HB.out)) hb); clear HO287; clear BK283; clear HB; have HO287 := n0_; have BK283 := n1_; have HB := n2_; clear n0_ n1_ n2_; (try clear hb); (try clear hb2); (try clear hk); (try clear hi)) | ((with_reducible refine gate_dst (N := 11) rfl ?_); (try (refine gate_guard (by rfl) ?_; dsimp only)); refine box_event ?hg (N := 11) ?hd (cs := #[.int .i64 0, .int .i64 0]) (t := 52) ?hr ?_; (case hd => rfl); (case hg => rfl); (case hr => first | (go_simp; done) | (go_simp; rfl)); intro gb290 hg w15 hbox hb; have n0_ := Aside0.mk (Kd.R_below (by (with_reducible repeat (first | apply Kd.R_alloc | apply Kd.R_drewN | apply Kd.R_drew)); exact HO287.out) hb); have n1_ := Aside0.mk (blk_below (g := gb283) (o := .cells #[.int .u16 a2_0, .int .u16 a2_1] 59 (0, 0)) (by (with_reducible repeat (first | refine blk_drewN ?_ _ | refine blk_drew ?_ | refine blk_alloc ?_ _)); exact BK283.out) hb); have n2_ := Aside0.mk (below_step (by repeat (first | (with_reducible first | exact HB.out | apply below_alloc | apply pw_below_drewN | apply below_drew1 | refine below_set ?_ GE283.out) | exact HB.out)) hb); have n3_ := Aside0.mk (hbox); have n4_ := Aside0.mk ((by rw [hg]; exact (below_size (by repeat (first | (with_reducible first | exact HB.out | apply below_alloc | apply pw_below_drewN | apply below_drew1 | refine below_set ?_ GE283.out) | exact HB.out))) : w.heap.size ≤ gb290)); have n5_ := Aside0.mk ((by rw [hg]; exact (below_size (by repeat (first | (with_reducible first | exact HB.out | apply below_alloc | apply pw_below_drewN | apply below_drew1 | refine below_set ?_ GE283.out) | exact HB.out))) : w.heap.size ≤ gb290)); have n6_ := Aside0.mk ((by rw [hg]; exact Nat.ne_of_lt (blk_lt (g := gb283) (o := .cells #[.int .u16 a2_0, .int .u16 a2_1] 59 (0, 0)) (by (with_reducible repeat (first | refine blk_drewN ?_ _ | refine blk_drew ?_ | refine blk_alloc ?_ _)); exact BK283.out)) : gb283 ≠ gb290)); have n7_ := Aside0.mk ((by rw [hg]; exact Nat.ne_of_gt (blk_lt (g := gb283) (o := .cells #[.int .u16 a2_0, .int .u16 a2_1] 59 (0, 0)) (by (with_reducible repeat (first | refine blk_drewN ?_ _ | refine blk_drew ?_ | refine blk_alloc ?_ _)); exact BK283.out)) : gb290 ≠ gb283)); clear HO287; clear BK283; clear HB; have HO287 := n0_; have BK283 := n1_; have HB := n2_; have BK290 := n3_; have GW290 := n4_; have GE290 := n5_; have NB283_290 := n6_; have NB290_283 := n7_; clear n0_ n1_ n2_ n3_ n4_ n5_ n6_ n7_; clear hb hbox hg; have hnb16 := NB290_283.out; have hnc16 := NB283_290.out; have hcz17_0 : w15.cell? ⟨gb290, 0, none⟩ = some (.int .i64 0) := (blk_cell BK290.out 0).trans rfl; have hcz17_1 : w15.cell? ⟨gb290, 1, none⟩ = some (.int .i64 0) := (blk_cell BK290.out 1).trans rfl; have hfz17_0 := blk_frozen BK290.out 0; have hfz17_1 := blk_frozen BK290.out 1))
      (try simp only [Act.put, List.setIfInBounds_toArray, List.set_cons_zero, List.set_cons_succ])
      go_cut [50] (fun v50 wc => ∃ (kq : Nat) (x50_8 : Bool), v50 = .bool x50_8 ∧ Aside0 (plexuslaw23_BoundWords.j0 kq true (wrap64 (1 + (Int.tmod (wrap64 (a0)) 10))) (wrap64 (1 + (Int.tmod (wrap64 (a1)) (wrap64 (1 + (Int.tmod (wrap64 (a0)) 10)))))) t285 x50_8 = some r) ∧ Aside0 (kq ≤ k) ∧ Aside0 (Kd.R (Kd.int .i64) 3 wc w.heap.size (fun _ => True) v286 t285) ∧ Aside0 (wc.heap[gb283]? = some (.cells #[.int .u16 a2_0, .int .u16 a2_1] 59 (0, 0))) ∧ Aside0 (wc.heap[gb290]? = some (.cells #[.int .i64 t288, .int .i64 t289] 52 (0, 0))) ∧ Aside0 (Below w.heap.size w wc))
      case first =>
        have H := HC9.out
        clear HC9
        by_cases c18 : t289 = 0
        · rw [if_pos c18] at H
          have c18b0 : (t289 == 0) = true := beq_iff_eq.mpr c18
          have c18b1 : (t289 != 0) = false := bne_eq_false_iff_eq.mpr c18
          clear c18
          (first | rw [c18b0] | (simp only [i64_w, i32_w]; rw [c18b0]) | skip)
          have H' := Aside0.mk H
          clear H
          have hnb19 := NB290_283.out
          have hnc19 := NB283_290.out
          have hcz20_0 : w15.cell? ⟨gb290, 0, none⟩ = some (.int .i64 0) := (blk_cell BK290.out 0).trans rfl
          have hcz20_1 : w15.cell? ⟨gb290, 1, none⟩ = some (.int .i64 0) := (blk_cell BK290.out 1).trans rfl
          have hfz20_0 := blk_frozen BK290.out 0
          have hfz20_1 := blk_frozen BK290.out 1
          obtain ⟨Ao21, co21, eo21⟩ := Kd.R_slice HO287.out
          subst eo21
          go_wp2
          go_meet
          case rel => exact ⟨_, (decide ((t285.length : Int) > t288)), (by first | rfl | (simp; done) | (simp [*]; done)), H', ⟨by first | omega | exact Nat.le_refl _⟩, ⟨by (with_reducible repeat (first | apply Kd.R_alloc | apply Kd.R_drewN | apply Kd.R_drew)); exact Kd.R_mono (Kd.R_far (p := ⟨gb290, 1, none⟩) (Kd.R_far (p := ⟨gb290, 0, none⟩) (Kd.R_types HO287.out BK290.out (by decide)) (fun _ hk => hk.2) (.int .i64 t288)) (fun _ hk => hk.2) (.int .i64 t289)) (fun _ hk => trivial)⟩, ⟨by (with_reducible repeat (first | refine blk_drewN ?_ _ | refine blk_drew ?_ | refine blk_alloc ?_ _)); refine blk_far ?_ NB283_290.out _; (with_reducible repeat (first | refine blk_drewN ?_ _ | refine blk_drew ?_ | refine blk_alloc ?_ _)); refine blk_far ?_ NB283_290.out _; (with_reducible repeat (first | refine blk_drewN ?_ _ | refine blk_drew ?_ | refine blk_alloc ?_ _)); exact BK283.out⟩, ⟨by (with_reducible repeat (first | refine blk_drewN ?_ _ | refine blk_drew ?_ | refine blk_alloc ?_ _)); refine blk_put (cs := #[.int .i64 t288, .int .i64 0]) ?_ 1 _ rfl; (with_reducible repeat (first | refine blk_drewN ?_ _ | refine blk_drew ?_ | refine blk_alloc ?_ _)); refine blk_put (cs := #[.int .i64 0, .int .i64 0]) ?_ 0 _ rfl; (with_reducible repeat (first | refine blk_drewN ?_ _ | refine blk_drew ?_ | refine blk_alloc ?_ _)); exact BK290.out⟩, ⟨by repeat (first | (with_reducible first | exact HB.out | apply below_alloc | apply pw_below_drewN | apply below_drew1 | refine below_set ?_ GE283.out | refine below_set ?_ GE290.out) | exact HB.out)⟩⟩
        · rw [if_neg c18] at H
          have c18b0 : (t289 == 0) = false := beq_eq_false_iff_ne.mpr c18
          have c18b1 : (t289 != 0) = true := bne_iff_ne.mpr c18
          (first | rw [c18b0] | (simp only [i64_w, i32_w]; rw [c18b0]) | skip)
          by_cases c22 : t289 = 4
          · rw [if_pos c22] at H
            have c22b0 : (t289 == 4) = true := beq_iff_eq.mpr c22
            have c22b1 : (t289 != 4) = false := bne_eq_false_iff_eq.mpr c22
            clear c22
            have H' := Aside0.mk H
            clear H
            have hnb23 := NB290_283.out
            have hnc23 := NB283_290.out
            have hcz24_0 : w15.cell? ⟨gb290, 0, none⟩ = some (.int .i64 0) := (blk_cell BK290.out 0).trans rfl
            have hcz24_1 : w15.cell? ⟨gb290, 1, none⟩ = some (.int .i64 0) := (blk_cell BK290.out 1).trans rfl
            have hfz24_0 := blk_frozen BK290.out 0
            have hfz24_1 := blk_frozen BK290.out 1
            go_wp2
            go_meet
            case rel => exact ⟨_, (false), (by first | rfl | (simp; done) | (simp [*]; done)), H', ⟨by first | omega | exact Nat.le_refl _⟩, ⟨by (with_reducible repeat (first | apply Kd.R_alloc | apply Kd.R_drewN | apply Kd.R_drew)); exact Kd.R_mono (Kd.R_far (p := ⟨gb290, 1, none⟩) (Kd.R_far (p := ⟨gb290, 0, none⟩) (Kd.R_types HO287.out BK290.out (by decide)) (fun _ hk => hk.2) (.int .i64 t288)) (fun _ hk => hk.2) (.int .i64 t289)) (fun _ hk => trivial)⟩, ⟨by (with_reducible repeat (first | refine blk_drewN ?_ _ | refine blk_drew ?_ | refine blk_alloc ?_ _)); refine blk_far ?_ NB283_290.out _; (with_reducible repeat (first | refine blk_drewN ?_ _ | refine blk_drew ?_ | refine blk_alloc ?_ _)); refine blk_far ?_ NB283_290.out _; (with_reducible repeat (first | refine blk_drewN ?_ _ | refine blk_drew ?_ | refine blk_alloc ?_ _)); exact BK283.out⟩, ⟨by (with_reducible repeat (first | refine blk_drewN ?_ _ | refine blk_drew ?_ | refine blk_alloc ?_ _)); refine blk_put (cs := #[.int .i64 t288, .int .i64 0]) ?_ 1 _ rfl; (with_reducible repeat (first | refine blk_drewN ?_ _ | refine blk_drew ?_ | refine blk_alloc ?_ _)); refine blk_put (cs := #[.int .i64 0, .int .i64 0]) ?_ 0 _ rfl; (with_reducible repeat (first | refine blk_drewN ?_ _ | refine blk_drew ?_ | refine blk_alloc ?_ _)); exact BK290.out⟩, ⟨by repeat (first | (with_reducible first | exact HB.out | apply below_alloc | apply pw_below_drewN | apply below_drew1 | refine below_set ?_ GE283.out | refine below_set ?_ GE290.out) | exact HB.out)⟩⟩
          · rw [if_neg c22] at H
            exact absurd H (by simp)
      case rest =>
        clear HC9
        try clear c1
        try clear c2
        try clear p2
        try clear c3
        try clear c4
        try clear c5
        try clear c6
        try clear c6b0
        try clear c6b1
        try clear p6
        try clear c11
        try clear c16
        try clear c18
        try clear c18b0
        try clear c18b1
        try clear c19
        try clear c22
        try clear c22b0
        try clear c22b1
        try clear c23
        try clear hcz12_0
        try clear hcz12_1
        try clear hcz17_0
        try clear hcz17_1
        try clear hcz20_0
        try clear hcz20_1
        try clear hcz24_0
        try clear hcz24_1
        try clear hfz12_0
        try clear hfz12_1
        try clear hfz17_0
        try clear hfz17_1
        try clear hfz20_0
        try clear hfz20_1
        try clear hfz24_0
        try clear hfz24_1
        obtain ⟨kq, x50_8, rfl, HA, HJ8, HO_10, BK283, BK290, HB⟩ := hcut
        cases kq with
        | zero => exact absurd HA.out (by simp [plexuslaw23_BoundWords.j0])
        | succ kj8 =>
          have H := HA.out
          clear HA
          simp only [plexuslaw23_BoundWords.j0] at H
          by_cases c25 : x50_8 = true
          · subst c25
            have H1 : (none) = some r := by rw [if_pos rfl] at H; exact H
            clear H
            have H := H1
            clear H1
            exact absurd H (by simp)
          · replace c25 := Bool.eq_false_iff.mpr c25
            subst c25
            have H1 : (if true = true then ((plexuslaw23_sphere.f kj8 (wrap64 (1 + (Int.tmod (wrap64 (a0)) 10))) (wrap64 (1 + (Int.tmod (wrap64 (a1)) (wrap64 (1 + (Int.tmod (wrap64 (a0)) 10))))))).bind fun bt291 => ((plexuslaw23_below.f (t285.length : Int) bt291.1 bt291.2).bind fun t293 => (if t293 = true then ((plexuslaw23_singleton.f (wrap64 (1 + (Int.tmod (wrap64 (a0)) 10))) (wrap64 (1 + (Int.tmod (wrap64 (a1)) (wrap64 (1 + (Int.tmod (wrap64 (a0)) 10))))))).bind fun bt294 => ((plexuslaw23_below.f (t285.length : Int) bt294.1 bt294.2).bind fun t296 => (if t296 = true then ((plexuslaw23_best.f kj8 (wrap64 (1 + (Int.tmod (wrap64 (a0)) 10))) (wrap64 (1 + (Int.tmod (wrap64 (a1)) (wrap64 (1 + (Int.tmod (wrap64 (a0)) 10))))))).bind fun bt297 => ((plexuslaw23_below.f (t285.length : Int) bt297.1 bt297.2).bind fun t299 => (some t299))) else (none)))) else (none)))) else (none)) = some r := by rw [if_neg (show ¬ (false = true) by decide)] at H; exact H
            clear H
            have H := H1
            clear H1
            replace H : ((plexuslaw23_sphere.f kj8 (wrap64 (1 + (Int.tmod (wrap64 (a0)) 10))) (wrap64 (1 + (Int.tmod (wrap64 (a1)) (wrap64 (1 + (Int.tmod (wrap64 (a0)) 10))))))).bind fun bt291 => ((plexuslaw23_below.f (t285.length : Int) bt291.1 bt291.2).bind fun t293 => (if t293 = true then ((plexuslaw23_singleton.f (wrap64 (1 + (Int.tmod (wrap64 (a0)) 10))) (wrap64 (1 + (Int.tmod (wrap64 (a1)) (wrap64 (1 + (Int.tmod (wrap64 (a0)) 10))))))).bind fun bt294 => ((plexuslaw23_below.f (t285.length : Int) bt294.1 bt294.2).bind fun t296 => (if t296 = true then ((plexuslaw23_best.f kj8 (wrap64 (1 + (Int.tmod (wrap64 (a0)) 10))) (wrap64 (1 + (Int.tmod (wrap64 (a1)) (wrap64 (1 + (Int.tmod (wrap64 (a0)) 10))))))).bind fun bt297 => ((plexuslaw23_below.f (t285.length : Int) bt297.1 bt297.2).bind fun t299 => (some t299))) else (none)))) else (none)))) = some r := by rw [if_pos rfl] at H; exact H
            replace H := Option.bind_eq_some_iff.mp H
            obtain ⟨⟨t291, t292⟩, A260, H⟩ := H
            replace H : ((plexuslaw23_below.f (t285.length : Int) t291 t292).bind fun t293 => (if t293 = true then ((plexuslaw23_singleton.f (wrap64 (1 + (Int.tmod (wrap64 (a0)) 10))) (wrap64 (1 + (Int.tmod (wrap64 (a1)) (wrap64 (1 + (Int.tmod (wrap64 (a0)) 10))))))).bind fun bt294 => ((plexuslaw23_below.f (t285.length : Int) bt294.1 bt294.2).bind fun t296 => (if t296 = true then ((plexuslaw23_best.f kj8 (wrap64 (1 + (Int.tmod (wrap64 (a0)) 10))) (wrap64 (1 + (Int.tmod (wrap64 (a1)) (wrap64 (1 + (Int.tmod (wrap64 (a0)) 10))))))).bind fun bt297 => ((plexuslaw23_below.f (t285.length : Int) bt297.1 bt297.2).bind fun t299 => (some t299))) else (none)))) else (none))) = some r := H
            have A26 := Aside0.mk A260
            clear A260
            replace H := Option.bind_eq_some_iff.mp H
            obtain ⟨t293, A270, H⟩ := H
            replace H : (if t293 = true then ((plexuslaw23_singleton.f (wrap64 (1 + (Int.tmod (wrap64 (a0)) 10))) (wrap64 (1 + (Int.tmod (wrap64 (a1)) (wrap64 (1 + (Int.tmod (wrap64 (a0)) 10))))))).bind fun bt294 => ((plexuslaw23_below.f (t285.length : Int) bt294.1 bt294.2).bind fun t296 => (if t296 = true then ((plexuslaw23_best.f kj8 (wrap64 (1 + (Int.tmod (wrap64 (a0)) 10))) (wrap64 (1 + (Int.tmod (wrap64 (a1)) (wrap64 (1 + (Int.tmod (wrap64 (a0)) 10))))))).bind fun bt297 => ((plexuslaw23_below.f (t285.length : Int) bt297.1 bt297.2).bind fun t299 => (some t299))) else (none)))) else (none)) = some r := H
            have A27 := Aside0.mk A270
            clear A270
            by_cases c28 : t293 = true
            · subst c28
              have H1 : ((plexuslaw23_singleton.f (wrap64 (1 + (Int.tmod (wrap64 (a0)) 10))) (wrap64 (1 + (Int.tmod (wrap64 (a1)) (wrap64 (1 + (Int.tmod (wrap64 (a0)) 10))))))).bind fun bt294 => ((plexuslaw23_below.f (t285.length : Int) bt294.1 bt294.2).bind fun t296 => (if t296 = true then ((plexuslaw23_best.f kj8 (wrap64 (1 + (Int.tmod (wrap64 (a0)) 10))) (wrap64 (1 + (Int.tmod (wrap64 (a1)) (wrap64 (1 + (Int.tmod (wrap64 (a0)) 10))))))).bind fun bt297 => ((plexuslaw23_below.f (t285.length : Int) bt297.1 bt297.2).bind fun t299 => (some t299))) else (none)))) = some r := by rw [if_pos rfl] at H; exact H
              clear H
              have H := H1
              clear H1
              replace H := Option.bind_eq_some_iff.mp H
              obtain ⟨⟨t294, t295⟩, A290, H⟩ := H
              replace H : ((plexuslaw23_below.f (t285.length : Int) t294 t295).bind fun t296 => (if t296 = true then ((plexuslaw23_best.f kj8 (wrap64 (1 + (Int.tmod (wrap64 (a0)) 10))) (wrap64 (1 + (Int.tmod (wrap64 (a1)) (wrap64 (1 + (Int.tmod (wrap64 (a0)) 10))))))).bind fun bt297 => ((plexuslaw23_below.f (t285.length : Int) bt297.1 bt297.2).bind fun t299 => (some t299))) else (none))) = some r := H
              have A29 := Aside0.mk A290
              clear A290
              replace H := Option.bind_eq_some_iff.mp H
              obtain ⟨t296, A300, H⟩ := H
              replace H : (if t296 = true then ((plexuslaw23_best.f kj8 (wrap64 (1 + (Int.tmod (wrap64 (a0)) 10))) (wrap64 (1 + (Int.tmod (wrap64 (a1)) (wrap64 (1 + (Int.tmod (wrap64 (a0)) 10))))))).bind fun bt297 => ((plexuslaw23_below.f (t285.length : Int) bt297.1 bt297.2).bind fun t299 => (some t299))) else (none)) = some r := H
              have A30 := Aside0.mk A300
              clear A300
              by_cases c31 : t296 = true
              · subst c31
                have H1 : ((plexuslaw23_best.f kj8 (wrap64 (1 + (Int.tmod (wrap64 (a0)) 10))) (wrap64 (1 + (Int.tmod (wrap64 (a1)) (wrap64 (1 + (Int.tmod (wrap64 (a0)) 10))))))).bind fun bt297 => ((plexuslaw23_below.f (t285.length : Int) bt297.1 bt297.2).bind fun t299 => (some t299))) = some r := by rw [if_pos rfl] at H; exact H
                clear H
                have H := H1
                clear H1
                replace H := Option.bind_eq_some_iff.mp H
                obtain ⟨⟨t297, t298⟩, A320, H⟩ := H
                replace H : ((plexuslaw23_below.f (t285.length : Int) t297 t298).bind fun t299 => (some t299)) = some r := H
                have A32 := Aside0.mk A320
                clear A320
                replace H := Option.bind_eq_some_iff.mp H
                obtain ⟨t299, A330, H⟩ := H
                replace H : (some t299) = some r := H
                have A33 := Aside0.mk A330
                clear A330
                obtain rfl := Option.some.inj H
                obtain ⟨Ao34, co34, eo34⟩ := Kd.R_slice HO_10.out
                subst eo34
                go_wp2_with (first | (go_at_call 36; (with_reducible refine (plexuslaw23_sphere.calls kj8 (wrap64 (1 + (Int.tmod (wrap64 (a0)) 10))) (wrap64 (1 + (Int.tmod (wrap64 (a1)) (wrap64 (1 + (Int.tmod (wrap64 (a0)) 10)))))) t291 t292 _ A26.out).mono ?_); rintro e w35 ⟨rfl, hb⟩; have n0_ := Aside0.mk (Kd.R_below (by (with_reducible repeat (first | apply Kd.R_alloc | apply Kd.R_drewN | apply Kd.R_drew)); exact HO_10.out) hb); have n1_ := Aside0.mk (blk_below (g := gb283) (o := .cells #[.int .u16 a2_0, .int .u16 a2_1] 59 (0, 0)) (by (with_reducible repeat (first | refine blk_drewN ?_ _ | refine blk_drew ?_ | refine blk_alloc ?_ _)); exact BK283.out) hb); have n2_ := Aside0.mk (blk_below (g := gb290) (o := .cells #[.int .i64 t288, .int .i64 t289] 52 (0, 0)) (by (with_reducible repeat (first | refine blk_drewN ?_ _ | refine blk_drew ?_ | refine blk_alloc ?_ _)); exact BK290.out) hb); have n3_ := Aside0.mk (below_step (by repeat (first | (with_reducible first | exact HB.out | apply below_alloc | apply pw_below_drewN | apply below_drew1 | refine below_set ?_ GE283.out | refine below_set ?_ GE290.out) | exact HB.out)) hb); clear HO_10; clear BK283; clear BK290; clear HB; have HO_10 := n0_; have BK283 := n1_; have BK290 := n2_; have HB := n3_; clear n0_ n1_ n2_ n3_; (try clear hb); (try clear hb2); (try clear hk); (try clear hi)) | (go_at_call 50; (with_reducible refine (plexuslaw23_below.calls (t285.length : Int) t291 t292 true _ A27.out).mono ?_); rintro e w36 ⟨rfl, hb⟩; have n0_ := Aside0.mk (Kd.R_below (by (with_reducible repeat (first | apply Kd.R_alloc | apply Kd.R_drewN | apply Kd.R_drew)); exact HO_10.out) hb); have n1_ := Aside0.mk (blk_below (g := gb283) (o := .cells #[.int .u16 a2_0, .int .u16 a2_1] 59 (0, 0)) (by (with_reducible repeat (first | refine blk_drewN ?_ _ | refine blk_drew ?_ | refine blk_alloc ?_ _)); exact BK283.out) hb); have n2_ := Aside0.mk (blk_below (g := gb290) (o := .cells #[.int .i64 t288, .int .i64 t289] 52 (0, 0)) (by (with_reducible repeat (first | refine blk_drewN ?_ _ | refine blk_drew ?_ | refine blk_alloc ?_ _)); exact BK290.out) hb); have n3_ := Aside0.mk (below_step (by repeat (first | (with_reducible first | exact HB.out | apply below_alloc | apply pw_below_drewN | apply below_drew1 | refine below_set ?_ GE283.out | refine below_set ?_ GE290.out) | exact HB.out)) hb); clear HO_10; clear BK283; clear BK290; clear HB; have HO_10 := n0_; have BK283 := n1_; have BK290 := n2_; have HB := n3_; clear n0_ n1_ n2_ n3_; (try clear hb); (try clear hb2); (try clear hk); (try clear hi)) | (go_at_call 38; (with_reducible refine (plexuslaw23_singleton.calls (wrap64 (1 + (Int.tmod (wrap64 (a0)) 10))) (wrap64 (1 + (Int.tmod (wrap64 (a1)) (wrap64 (1 + (Int.tmod (wrap64 (a0)) 10)))))) t294 t295 _ A29.out).mono ?_); rintro e w37 ⟨rfl, hb⟩; have n0_ := Aside0.mk (Kd.R_below (by (with_reducible repeat (first | apply Kd.R_alloc | apply Kd.R_drewN | apply Kd.R_drew)); exact HO_10.out) hb); have n1_ := Aside0.mk (blk_below (g := gb283) (o := .cells #[.int .u16 a2_0, .int .u16 a2_1] 59 (0, 0)) (by (with_reducible repeat (first | refine blk_drewN ?_ _ | refine blk_drew ?_ | refine blk_alloc ?_ _)); exact BK283.out) hb); have n2_ := Aside0.mk (blk_below (g := gb290) (o := .cells #[.int .i64 t288, .int .i64 t289] 52 (0, 0)) (by (with_reducible repeat (first | refine blk_drewN ?_ _ | refine blk_drew ?_ | refine blk_alloc ?_ _)); exact BK290.out) hb); have n3_ := Aside0.mk (below_step (by repeat (first | (with_reducible first | exact HB.out | apply below_alloc | apply pw_below_drewN | apply below_drew1 | refine below_set ?_ GE283.out | refine below_set ?_ GE290.out) | exact HB.out)) hb); clear HO_10; clear BK283; clear BK290; clear HB; have HO_10 := n0_; have BK283 := n1_; have BK290 := n2_; have HB := n3_; clear n0_ n1_ n2_ n3_; (try clear hb); (try clear hb2); (try clear hk); (try clear hi)) | (go_at_call 50; (with_reducible refine (plexuslaw23_below.calls (t285.length : Int) t294 t295 true _ A30.out).mono ?_); rintro e w38 ⟨rfl, hb⟩; have n0_ := Aside0.mk (Kd.R_below (by (with_reducible repeat (first | apply Kd.R_alloc | apply Kd.R_drewN | apply Kd.R_drew)); exact HO_10.out) hb); have n1_ := Aside0.mk (blk_below (g := gb283) (o := .cells #[.int .u16 a2_0, .int .u16 a2_1] 59 (0, 0)) (by (with_reducible repeat (first | refine blk_drewN ?_ _ | refine blk_drew ?_ | refine blk_alloc ?_ _)); exact BK283.out) hb); have n2_ := Aside0.mk (blk_below (g := gb290) (o := .cells #[.int .i64 t288, .int .i64 t289] 52 (0, 0)) (by (with_reducible repeat (first | refine blk_drewN ?_ _ | refine blk_drew ?_ | refine blk_alloc ?_ _)); exact BK290.out) hb); have n3_ := Aside0.mk (below_step (by repeat (first | (with_reducible first | exact HB.out | apply below_alloc | apply pw_below_drewN | apply below_drew1 | refine below_set ?_ GE283.out | refine below_set ?_ GE290.out) | exact HB.out)) hb); clear HO_10; clear BK283; clear BK290; clear HB; have HO_10 := n0_; have BK283 := n1_; have BK290 := n2_; have HB := n3_; clear n0_ n1_ n2_ n3_; (try clear hb); (try clear hb2); (try clear hk); (try clear hi)) | (go_at_call 44; (with_reducible refine (plexuslaw23_best.calls kj8 (wrap64 (1 + (Int.tmod (wrap64 (a0)) 10))) (wrap64 (1 + (Int.tmod (wrap64 (a1)) (wrap64 (1 + (Int.tmod (wrap64 (a0)) 10)))))) t297 t298 _ A32.out).mono ?_); rintro e w39 ⟨rfl, hb⟩; have n0_ := Aside0.mk (Kd.R_below (by (with_reducible repeat (first | apply Kd.R_alloc | apply Kd.R_drewN | apply Kd.R_drew)); exact HO_10.out) hb); have n1_ := Aside0.mk (blk_below (g := gb283) (o := .cells #[.int .u16 a2_0, .int .u16 a2_1] 59 (0, 0)) (by (with_reducible repeat (first | refine blk_drewN ?_ _ | refine blk_drew ?_ | refine blk_alloc ?_ _)); exact BK283.out) hb); have n2_ := Aside0.mk (blk_below (g := gb290) (o := .cells #[.int .i64 t288, .int .i64 t289] 52 (0, 0)) (by (with_reducible repeat (first | refine blk_drewN ?_ _ | refine blk_drew ?_ | refine blk_alloc ?_ _)); exact BK290.out) hb); have n3_ := Aside0.mk (below_step (by repeat (first | (with_reducible first | exact HB.out | apply below_alloc | apply pw_below_drewN | apply below_drew1 | refine below_set ?_ GE283.out | refine below_set ?_ GE290.out) | exact HB.out)) hb); clear HO_10; clear BK283; clear BK290; clear HB; have HO_10 := n0_; have BK283 := n1_; have BK290 := n2_; have HB := n3_; clear n0_ n1_ n2_ n3_; (try clear hb); (try clear hb2); (try clear hk); (try clear hi)) | (go_at_call 50; (with_reducible refine (plexuslaw23_below.calls (t285.length : Int) t297 t298 t299 _ A33.out).mono ?_); rintro e w40 ⟨rfl, hb⟩; have n0_ := Aside0.mk (Kd.R_below (by (with_reducible repeat (first | apply Kd.R_alloc | apply Kd.R_drewN | apply Kd.R_drew)); exact HO_10.out) hb); have n1_ := Aside0.mk (blk_below (g := gb283) (o := .cells #[.int .u16 a2_0, .int .u16 a2_1] 59 (0, 0)) (by (with_reducible repeat (first | refine blk_drewN ?_ _ | refine blk_drew ?_ | refine blk_alloc ?_ _)); exact BK283.out) hb); have n2_ := Aside0.mk (blk_below (g := gb290) (o := .cells #[.int .i64 t288, .int .i64 t289] 52 (0, 0)) (by (with_reducible repeat (first | refine blk_drewN ?_ _ | refine blk_drew ?_ | refine blk_alloc ?_ _)); exact BK290.out) hb); have n3_ := Aside0.mk (below_step (by repeat (first | (with_reducible first | exact HB.out | apply below_alloc | apply pw_below_drewN | apply below_drew1 | refine below_set ?_ GE283.out | refine below_set ?_ GE290.out) | exact HB.out)) hb); clear HO_10; clear BK283; clear BK290; clear HB; have HO_10 := n0_; have BK283 := n1_; have BK290 := n2_; have HB := n3_; clear n0_ n1_ n2_ n3_; (try clear hb); (try clear hb2); (try clear hk); (try clear hi)))
                go_ret
                exact ⟨by first | rfl | (simp [errW_none, errW_some] <;> rfl) | (simp [*, errW_none, errW_some] <;> rfl), by repeat (first | (with_reducible first | exact HB.out | apply below_alloc | apply pw_below_drewN | apply below_drew1 | refine below_set ?_ GE283.out | refine below_set ?_ GE290.out) | exact HB.out)⟩
              · replace c31 := Bool.eq_false_iff.mpr c31
                subst c31
                have H1 : (none) = some r := by rw [if_neg (show ¬ (false = true) by decide)] at H; exact H
                clear H
                have H := H1
                clear H1
                exact absurd H (by simp)
            · replace c28 := Bool.eq_false_iff.mpr c28
              subst c28
              have H1 : (none) = some r := by rw [if_neg (show ¬ (false = true) by decide)] at H; exact H
              clear H
              have H := H1
              clear H1
              exact absurd H (by simp)
  · replace c5 := Bool.eq_false_iff.mpr c5
    subst c5
    have H1 : (none) = some r := by rw [if_neg (show ¬ (false = true) by decide)] at H; exact H
    clear H
    have H := H1
    clear H1
    exact absurd H (by simp)

/-- THE ONE PURE STATEMENT of plexuslaw23_BoundWords. -/
def plexuslaw23_BoundWords.Pure : Prop := ∀ (a0 : Int) (a1 : Int) (x2 : S59), (Lit.int .u8 a0).wf = true → (Lit.int .u8 a1).wf = true → W59 x2 → ∃ k, plexuslaw23_BoundWords.f k a0 a1 x2.f0 x2.f1 = some true
theorem plexuslaw23_BoundWords.walk (P : plexuslaw23_BoundWords.Pure) (w : World) (a0 : Int) (w0 : (Lit.int .u8 a0).wf = true) (a1 : Int) (w1 : (Lit.int .u8 a1).wf = true) (x2 : S59) (cs2 : List Value) (hk2 : k59.K w x2 cs2) (w2 : W59 x2) :
    Calls Try.prog 11 #[.int .u8 a0, .int .u8 a1, .agg cs2.toArray] w fun e w' => e = .returned (.bool true) ∧ Below w.heap.size w w' := by
  obtain ⟨k, h⟩ := P a0 a1 x2 w0 w1 w2
  obtain rfl := k59_open hk2
  refine (plexuslaw23_BoundWords.calls k a0 a1 x2.f0 x2.f1 true w  h).mono ?_
  rintro e w' ⟨rfl, hd⟩
  exact ⟨rfl, hd⟩

/-! ### plexuslaw23_least: function 52 -/
mutual
def plexuslaw23_least.l0 : Nat → List Int → Int → List Int → Int → Option (Int)
  | 0, _, _, _, _ => none
  | k + 1, x0, x3, x4, x5 => if x5 < (x0.length : Int) then (plexuslaw23_least.l1 k x0 x3 x4 x5 (x4.length : Int) 0) else (some x3)
def plexuslaw23_least.l1 : Nat → List Int → Int → List Int → Int → Int → Int → Option (Int)
  | 0, _, _, _, _, _, _ => none
  | k + 1, x0, x3, x4, x5, x6, x7 => if x7 < x6 then (if 0 ≤ x7 then (if x7 < (x4.length : Int) then (if 0 ≤ x5 then (if x5 < (x0.length : Int) then ((plexusref23_Weight.f k (Go.bits .xor .i64 (rd x4 x7) (rd x0 x5))).bind fun t305 => (if (x4.length : Int) = 1 then (if x4.length < 17592186044416 then (plexuslaw23_least.l1 k x0 t305 (x4 ++ [Go.bits .xor .i64 (rd x4 x7) (rd x0 x5)]) x5 x6 (wrap64 (x7 + 1))) else (none)) else (if t305 < x3 then (if x4.length < 17592186044416 then (plexuslaw23_least.l1 k x0 t305 (x4 ++ [Go.bits .xor .i64 (rd x4 x7) (rd x0 x5)]) x5 x6 (wrap64 (x7 + 1))) else (none)) else (if x4.length < 17592186044416 then (plexuslaw23_least.l1 k x0 x3 (x4 ++ [Go.bits .xor .i64 (rd x4 x7) (rd x0 x5)]) x5 x6 (wrap64 (x7 + 1))) else (none))))) else (none)) else (none)) else (none)) else (none)) else (plexuslaw23_least.l0 k x0 x3 x4 (wrap64 (x5 + 1)))
end
def plexuslaw23_least.f (k : Nat) (l0 : List Int) : Option (Int) := plexuslaw23_least.l0 k l0 0 (([0] : List Int)) 0
theorem plexuslaw23_least.mono_l : ∀ k, (∀ y0 y1 y2 y3, LeO (plexuslaw23_least.l0 k y0 y1 y2 y3) (plexuslaw23_least.l0 (k + 1) y0 y1 y2 y3)) ∧ (∀ y0 y1 y2 y3 y4 y5, LeO (plexuslaw23_least.l1 k y0 y1 y2 y3 y4 y5) (plexuslaw23_least.l1 (k + 1) y0 y1 y2 y3 y4 y5))
  | 0 => ⟨fun _ _ _ _ r h => by simp [plexuslaw23_least.l0] at h, fun _ _ _ _ _ _ r h => by simp [plexuslaw23_least.l1] at h⟩
  | k + 1 => by
    obtain ⟨ih0, ih1⟩ := plexuslaw23_least.mono_l k
    refine ⟨?_, ?_⟩
    · intro y0 y1 y2 y3
      unfold plexuslaw23_least.l0
      repeat' first
      | (with_reducible exact ih0 _ _ _ _)
      | (with_reducible exact ih1 _ _ _ _ _ _)
      | (with_reducible exact plexusref23_Weight.mono _ _)
      | (with_reducible exact LeO.refl _)
      | (with_reducible exact LeO.none _)
      | (with_reducible refine LeO.ite ?_ ?_)
      | (with_reducible refine LeO.bind ?_ (fun _ => ?_))
      | exact ih0 _ _ _ _
      | exact ih1 _ _ _ _ _ _
      | exact plexusref23_Weight.mono _ _
      | exact LeO.none _
      | refine LeO.ite ?_ ?_
      | refine LeO.bind ?_ (fun _ => ?_)
    · intro y0 y1 y2 y3 y4 y5
      unfold plexuslaw23_least.l1
      repeat' first
      | (with_reducible exact ih0 _ _ _ _)
      | (with_reducible exact ih1 _ _ _ _ _ _)
      | (with_reducible exact plexusref23_Weight.mono _ _)
      | (with_reducible exact LeO.refl _)
      | (with_reducible exact LeO.none _)
      | (with_reducible refine LeO.ite ?_ ?_)
      | (with_reducible refine LeO.bind ?_ (fun _ => ?_))
      | exact ih0 _ _ _ _
      | exact ih1 _ _ _ _ _ _
      | exact plexusref23_Weight.mono _ _
      | exact LeO.none _
      | refine LeO.ite ?_ ?_
      | refine LeO.bind ?_ (fun _ => ?_)
theorem plexuslaw23_least.mono : ∀ a0 k, LeO (plexuslaw23_least.f k a0) (plexuslaw23_least.f (k + 1) a0) := by
  intro a0 k
  obtain ⟨ih0, ih1⟩ := plexuslaw23_least.mono_l k
  unfold plexuslaw23_least.f
  repeat' first
      | (with_reducible exact ih0 _ _ _ _)
      | (with_reducible exact ih1 _ _ _ _ _ _)
      | (with_reducible exact plexusref23_Weight.mono _ _)
      | (with_reducible exact LeO.refl _)
      | (with_reducible exact LeO.none _)
      | (with_reducible refine LeO.ite ?_ ?_)
      | (with_reducible refine LeO.bind ?_ (fun _ => ?_))
      | exact ih0 _ _ _ _
      | exact ih1 _ _ _ _ _ _
      | exact plexusref23_Weight.mono _ _
      | exact LeO.none _
      | refine LeO.ite ?_ ?_
      | refine LeO.bind ?_ (fun _ => ?_)
set_option maxHeartbeats 8000000 in
set_option maxRecDepth 100000 in
theorem plexuslaw23_least.calls (k : Nat) (A0 : Option Addr) (c0 : Nat) (l0 : List Int) (r : Int) (w : World) (hr0 : Kd.C (Kd.int .i64) w A0 l0.length l0) (hc0 : l0.length ≤ c0) (h : plexuslaw23_least.f k l0 = some r) :
    Calls Try.prog 52 #[.slice A0 l0.length c0] w fun e w' => e = .returned (.int .i64 r) ∧ Below w.heap.size w w' := by
  have HR0 := Aside0.mk hr0
  have HC0 := Aside0.mk hc0
  clear hr0 hc0
  have HB := Aside0.mk (Below.refl w.heap.size w)
  have H : (plexuslaw23_least.l0 k l0 0 (([0] : List Int)) 0) = some r := h
  clear h
  obtain ⟨y300, hy300⟩ : ∃ y_ : List Int, y_ = (([0] : List Int)) := ⟨_, rfl⟩
  replace H : (plexuslaw23_least.l0 k l0 0 y300 0) = some r := by first | (rw [hy300]; with_reducible exact H) | (have H2_ := (Option.bind_some _ _).symm.trans H; rw [hy300]; with_reducible exact H2_) | (have H2_ := (Option.bind_some _ _).symm.trans H; with_reducible exact H2_) | with_reducible exact H | (rw [hy300]; exact H) | exact H
  have Ny300 := Aside0.mk hy300
  clear hy300
  have H' := Aside0.mk H
  clear H
  go_enter Try.func52, Try.ntmps52
  go_wp2_with (first | ((with_reducible refine gate_dst (N := 10) rfl ?_); refine Kd.R_lit (Kd.int .i64) _ 3 ?hg (N := 10) ?hd (xs := ([0] : List Int)) (inner := [.int .i64 0]) (ok := fun _ => True) (okp := fun _ => True) ?hr ?hp (fun _ hk => hk) trivial (Below.refl _ _) (Nat.le_refl _) (by simp) ?_; (case hd => rfl); (case hg => rfl); (case hr => first | (go_simp; done) | (go_simp; rfl)); (case hp => exact (Reps.one (show Kd.M (Kd.int .i64) _ _ _ 0 [.int .i64 0] from rfl) (Reps.none _ _))); intro v301 w2 ho3 hb hg_ hnew_; clear hg_ hnew_; (first | rw [← Ny300.out] at ho3 | (simp only [Int.reduceToNat] at ho3; rw [← Ny300.out] at ho3)); have n0_ := Aside0.mk (Kd.R_lower ho3 (below_size (by repeat (first | (with_reducible first | exact HB.out | apply below_alloc | apply pw_below_drewN | apply below_drew1) | exact HB.out)))); have n1_ := Aside0.mk (below_step (by repeat (first | (with_reducible first | exact HB.out | apply below_alloc | apply pw_below_drewN | apply below_drew1) | exact HB.out)) hb); clear HB; have HO302 := n0_; have HB := n1_; clear n0_ n1_; clear hb ho3))
  repeat (go_quiet (first | ((with_reducible refine gate_dst (N := 10) rfl ?_); refine Kd.R_lit (Kd.int .i64) _ 3 ?hg (N := 10) ?hd (xs := ([0] : List Int)) (inner := [.int .i64 0]) (ok := fun _ => True) (okp := fun _ => True) ?hr ?hp (fun _ hk => hk) trivial (Below.refl _ _) (Nat.le_refl _) (by simp) ?_; (case hd => rfl); (case hg => rfl); (case hr => first | (go_simp; done) | (go_simp; rfl)); (case hp => exact (Reps.one (show Kd.M (Kd.int .i64) _ _ _ 0 [.int .i64 0] from rfl) (Reps.none _ _))); intro v301 w2 ho3 hb hg_ hnew_; clear hg_ hnew_; (first | rw [← Ny300.out] at ho3 | (simp only [Int.reduceToNat] at ho3; rw [← Ny300.out] at ho3)); have n0_ := Aside0.mk (Kd.R_lower ho3 (below_size (by repeat (first | (with_reducible first | exact HB.out | apply below_alloc | apply pw_below_drewN | apply below_drew1) | exact HB.out)))); have n1_ := Aside0.mk (below_step (by repeat (first | (with_reducible first | exact HB.out | apply below_alloc | apply pw_below_drewN | apply below_drew1) | exact HB.out)) hb); clear HB; have HO302 := n0_; have HB := n1_; clear n0_ n1_; clear hb ho3)); try go_wp2_with (first | ((with_reducible refine gate_dst (N := 10) rfl ?_); refine Kd.R_lit (Kd.int .i64) _ 3 ?hg (N := 10) ?hd (xs := ([0] : List Int)) (inner := [.int .i64 0]) (ok := fun _ => True) (okp := fun _ => True) ?hr ?hp (fun _ hk => hk) trivial (Below.refl _ _) (Nat.le_refl _) (by simp) ?_; (case hd => rfl); (case hg => rfl); (case hr => first | (go_simp; done) | (go_simp; rfl)); (case hp => exact (Reps.one (show Kd.M (Kd.int .i64) _ _ _ 0 [.int .i64 0] from rfl) (Reps.none _ _))); intro v301 w2 ho3 hb hg_ hnew_; clear hg_ hnew_; (first | rw [← Ny300.out] at ho3 | (simp only [Int.reduceToNat] at ho3; rw [← Ny300.out] at ho3)); have n0_ := Aside0.mk (Kd.R_lower ho3 (below_size (by repeat (first | (with_reducible first | exact HB.out | apply below_alloc | apply pw_below_drewN | apply below_drew1) | exact HB.out)))); have n1_ := Aside0.mk (below_step (by repeat (first | (with_reducible first | exact HB.out | apply below_alloc | apply pw_below_drewN | apply below_drew1) | exact HB.out)) hb); clear HB; have HO302 := n0_; have HB := n1_; clear n0_ n1_; clear hb ho3)))
  go_loopg [3, 4, 5] k (fun kq v3 v4 v5 w' => ∃ (x3_1 : Int) (x4_1 : List Int) (x5_1 : Int), v3 = .int .i64 x3_1 ∧ v5 = .int .i64 x5_1 ∧ Aside0 (plexuslaw23_least.l0 kq l0 x3_1 x4_1 x5_1 = some r) ∧ Aside0 (kq ≤ k) ∧ Aside0 (Kd.R (Kd.int .i64) 3 w' w.heap.size (fun _ => True) v4 x4_1) ∧ Aside0 (Below w.heap.size w w'))
  case atStart => exact ⟨(0), (y300), (0), (by first | rfl | (simp; done) | (simp [*]; done)), (by first | rfl | (simp; done) | (simp [*]; done)), H', ⟨Nat.le_refl _⟩, ⟨by (with_reducible repeat (first | apply Kd.R_alloc | apply Kd.R_drewN | apply Kd.R_drew)); exact HO302.out⟩, ⟨by repeat (first | (with_reducible first | exact HB.out | apply below_alloc | apply pw_below_drewN | apply below_drew1) | exact HB.out)⟩⟩
  case round =>
    clear H'
    try clear p2
    obtain ⟨x3_1, x4_1, x5_1, rfl, rfl, HA, HK1, HO_4, HB⟩ := hrel
    cases gk with
    | zero => exact absurd HA.out (by simp [plexuslaw23_least.l0])
    | succ k1 =>
      have H := HA.out
      clear HA
      simp only [plexuslaw23_least.l0] at H
      by_cases c4 : x5_1 < (l0.length : Int)
      · rw [if_pos c4] at H
        have c4b0 : decide (x5_1 < (l0.length : Int)) = true := decide_eq_true c4
        clear c4
        have H' := Aside0.mk H
        clear H
        obtain ⟨Ao5, co5, eo5⟩ := Kd.R_slice HO_4.out
        subst eo5
        go_wp2
        repeat (go_quiet (fail); try go_wp2)
        go_loopg [3, 4, 7] k1 (fun kq v3 v4 v7 w' => ∃ (x3_2 : Int) (x4_2 : List Int) (x7_2 : Int), v3 = .int .i64 x3_2 ∧ v7 = .int .i64 x7_2 ∧ Aside0 (plexuslaw23_least.l1 kq l0 x3_2 x4_2 x5_1 (x4_1.length : Int) x7_2 = some r) ∧ Aside0 (kq ≤ k1) ∧ Aside0 (Kd.R (Kd.int .i64) 3 w' w.heap.size (fun _ => True) v4 x4_2) ∧ Aside0 (Below w.heap.size w w'))
        case atStart => exact ⟨(x3_1), (x4_1), (0), (by first | rfl | (simp; done) | (simp [*]; done)), (by first | rfl | (simp; done) | (simp [*]; done)), H', ⟨Nat.le_refl _⟩, ⟨by (with_reducible repeat (first | apply Kd.R_alloc | apply Kd.R_drewN | apply Kd.R_drew)); exact HO_4.out⟩, ⟨by repeat (first | (with_reducible first | exact HB.out | apply below_alloc | apply pw_below_drewN | apply below_drew1) | exact HB.out)⟩⟩
        case round =>
          clear H'
          try clear p2
          try clear c4
          try clear c4b0
          try clear c5
          try clear p2
          obtain ⟨x3_2, x4_2, x7_2, rfl, rfl, HA, HK2, HO_4, HB⟩ := hrel
          cases gk with
          | zero => exact absurd HA.out (by simp [plexuslaw23_least.l1])
          | succ k2 =>
            have H := HA.out
            clear HA
            simp only [plexuslaw23_least.l1] at H
            by_cases c6 : x7_2 < (x4_1.length : Int)
            · rw [if_pos c6] at H
              have c6b0 : decide (x7_2 < (x4_1.length : Int)) = true := decide_eq_true c6
              clear c6
              by_cases c7 : 0 ≤ x7_2
              · rw [if_pos c7] at H
                have c7b0 : decide (0 ≤ x7_2) = true := decide_eq_true c7
                clear c7
                by_cases c8 : x7_2 < (x4_2.length : Int)
                · rw [if_pos c8] at H
                  have c8b0 : decide (x7_2 < (x4_2.length : Int)) = true := decide_eq_true c8
                  clear c8
                  by_cases c9 : 0 ≤ x5_1
                  · rw [if_pos c9] at H
                    have c9b0 : decide (0 ≤ x5_1) = true := decide_eq_true c9
                    clear c9
                    by_cases c10 : x5_1 < (l0.length : Int)
                    · rw [if_pos c10] at H
                      have c10b0 : decide (x5_1 < (l0.length : Int)) = true := decide_eq_true c10
                      clear c10
                      replace H := Option.bind_eq_some_iff.mp H
                      obtain ⟨t305, A110, H⟩ := H
                      replace H : (if (x4_2.length : Int) = 1 then (if x4_2.length < 17592186044416 then (plexuslaw23_least.l1 k2 l0 t305 (x4_2 ++ [Go.bits .xor .i64 (rd x4_2 x7_2) (rd l0 x5_1)]) x5_1 (x4_1.length : Int) (wrap64 (x7_2 + 1))) else (none)) else (if t305 < x3_2 then (if x4_2.length < 17592186044416 then (plexuslaw23_least.l1 k2 l0 t305 (x4_2 ++ [Go.bits .xor .i64 (rd x4_2 x7_2) (rd l0 x5_1)]) x5_1 (x4_1.length : Int) (wrap64 (x7_2 + 1))) else (none)) else (if x4_2.length < 17592186044416 then (plexuslaw23_least.l1 k2 l0 x3_2 (x4_2 ++ [Go.bits .xor .i64 (rd x4_2 x7_2) (rd l0 x5_1)]) x5_1 (x4_1.length : Int) (wrap64 (x7_2 + 1))) else (none)))) = some r := H
                      have A11 := Aside0.mk A110
                      clear A110
                      by_cases c12 : (x4_2.length : Int) = 1
                      · rw [if_pos c12] at H
                        have c12b0 : ((x4_2.length : Int) == 1) = true := beq_iff_eq.mpr c12
                        have c12b1 : ((x4_2.length : Int) != 1) = false := bne_eq_false_iff_eq.mpr c12
                        clear c12
                        by_cases c13 : x4_2.length < 17592186044416
                        · rw [if_pos c13] at H
                          have LMc13 := Aside0.mk c13
                          clear c13
                          obtain ⟨y306, hy306⟩ : ∃ y_ : List Int, y_ = (x4_2 ++ [Go.bits .xor .i64 (rd x4_2 x7_2) (rd l0 x5_1)]) := ⟨_, rfl⟩
                          replace H : (plexuslaw23_least.l1 k2 l0 t305 y306 x5_1 (x4_1.length : Int) (wrap64 (x7_2 + 1))) = some r := by first | (rw [hy306]; with_reducible exact H) | (have H2_ := (Option.bind_some _ _).symm.trans H; rw [hy306]; with_reducible exact H2_) | (have H2_ := (Option.bind_some _ _).symm.trans H; with_reducible exact H2_) | with_reducible exact H | (rw [hy306]; exact H) | exact H
                          have Ny306 := Aside0.mk hy306
                          clear hy306
                          have H' := Aside0.mk H
                          clear H
                          obtain ⟨Ao14, co14, eo14⟩ := Kd.R_slice HO_4.out
                          subst eo14
                          have p303 : 0 ≤ (x7_2 : Int) := of_decide_eq_true (by first | (with_reducible assumption) | assumption)
                          have q303 : x7_2 < (x4_2.length : Int) := of_decide_eq_true (by first | (with_reducible assumption) | assumption)
                          obtain ⟨ad303, e303, hx303_0⟩ := Kd.at_int (Kd.R_reads' HO_4.out).2.2 x7_2 p303 q303
                          cases e303
                          replace p303 := eq_true p303
                          replace q303 := eq_true q303
                          have p304 : 0 ≤ (x5_1 : Int) := of_decide_eq_true (by first | (with_reducible assumption) | assumption)
                          have q304 : x5_1 < (l0.length : Int) := of_decide_eq_true (by first | (with_reducible assumption) | assumption)
                          obtain ⟨ad304, e304, hx304_0⟩ := Kd.at_int HR0.out x5_1 p304 q304
                          cases e304
                          replace hx304_0 := (HB.out.cell (World.block_lt_of_cell? w _ hx304_0)).trans hx304_0
                          replace p304 := eq_true p304
                          replace q304 := eq_true q304
                          go_wp2_with (first | (go_at_call 53; (with_reducible refine (plexusref23_Weight.calls k2 (Go.bits .xor .i64 (rd x4_2 x7_2) (rd l0 x5_1)) t305 _ A11.out).mono ?_); rintro e w' ⟨rfl, ⟨nd, rfl⟩⟩; (try first | exact ⟨rfl, _, World.drewN_drewN _ _ _⟩ | exact ⟨rfl, _, Eq.trans (World.drewN_drewN _ _ _) (congrArg (World.drewN _) (Nat.add_assoc _ _ _))⟩)) | ((with_reducible refine gate_builtin (b := .append) (xs := #[.tmp 44, .tmp 46]) rfl ?_); at_builtin; refine Kd.R_append (Kd.int .i64) (w0 := w) w.heap.size rfl (.tmp 44) (.tmp 46) 29 3 (.int .i64 0) 8 rfl Try.underlying29 info3 rfl (by decide) (by omega) (.slice (some ad303) x4_2.length co14) x4_2 (Go.bits .xor .i64 (rd x4_2 x7_2) (rd l0 x5_1)) [.int .i64 (Go.bits .xor .i64 (rd x4_2 x7_2) (rd l0 x5_1))] (fun _ => True) (fun _ => False) rfl rfl ?aP (fun _ hk => hk.elim) ?aF ?aO ?aB ?aS ?aL ?_; (case aP => exact rfl); (case aB => exact (by repeat (first | (with_reducible first | exact HB.out | apply below_alloc | apply pw_below_drewN | apply below_drew1) | exact HB.out))); (case aF => exact (fun _ _ => trivial)); (case aO => exact (by (with_reducible repeat (first | apply Kd.R_alloc | apply Kd.R_drewN | apply Kd.R_drew)); exact HO_4.out)); (case aS => exact (below_size (by repeat (first | (with_reducible first | exact HB.out | apply below_alloc | apply pw_below_drewN | apply below_drew1) | exact HB.out)))); (case aL => have := LMc13.out; omega); intro v307 w15 ho hb hg hat; rw [← Ny306.out] at ho; have n0_ := Aside0.mk (hb); have n1_ := Aside0.mk (ho); clear HB; clear HO_4; have HB := n0_; have HO308 := n1_; clear n0_ n1_; clear ho hb hg hat))
                          repeat (go_quiet (first | (go_at_call 53; (with_reducible refine (plexusref23_Weight.calls k2 (Go.bits .xor .i64 (rd x4_2 x7_2) (rd l0 x5_1)) t305 _ A11.out).mono ?_); rintro e w' ⟨rfl, ⟨nd, rfl⟩⟩; (try first | exact ⟨rfl, _, World.drewN_drewN _ _ _⟩ | exact ⟨rfl, _, Eq.trans (World.drewN_drewN _ _ _) (congrArg (World.drewN _) (Nat.add_assoc _ _ _))⟩)) | ((with_reducible refine gate_builtin (b := .append) (xs := #[.tmp 44, .tmp 46]) rfl ?_); at_builtin; refine Kd.R_append (Kd.int .i64) (w0 := w) w.heap.size rfl (.tmp 44) (.tmp 46) 29 3 (.int .i64 0) 8 rfl Try.underlying29 info3 rfl (by decide) (by omega) (.slice (some ad303) x4_2.length co14) x4_2 (Go.bits .xor .i64 (rd x4_2 x7_2) (rd l0 x5_1)) [.int .i64 (Go.bits .xor .i64 (rd x4_2 x7_2) (rd l0 x5_1))] (fun _ => True) (fun _ => False) rfl rfl ?aP (fun _ hk => hk.elim) ?aF ?aO ?aB ?aS ?aL ?_; (case aP => exact rfl); (case aB => exact (by repeat (first | (with_reducible first | exact HB.out | apply below_alloc | apply pw_below_drewN | apply below_drew1) | exact HB.out))); (case aF => exact (fun _ _ => trivial)); (case aO => exact (by (with_reducible repeat (first | apply Kd.R_alloc | apply Kd.R_drewN | apply Kd.R_drew)); exact HO_4.out)); (case aS => exact (below_size (by repeat (first | (with_reducible first | exact HB.out | apply below_alloc | apply pw_below_drewN | apply below_drew1) | exact HB.out)))); (case aL => have := LMc13.out; omega); intro v307 w15 ho hb hg hat; rw [← Ny306.out] at ho; have n0_ := Aside0.mk (hb); have n1_ := Aside0.mk (ho); clear HB; clear HO_4; have HB := n0_; have HO308 := n1_; clear n0_ n1_; clear ho hb hg hat)); try go_wp2_with (first | (go_at_call 53; (with_reducible refine (plexusref23_Weight.calls k2 (Go.bits .xor .i64 (rd x4_2 x7_2) (rd l0 x5_1)) t305 _ A11.out).mono ?_); rintro e w' ⟨rfl, ⟨nd, rfl⟩⟩; (try first | exact ⟨rfl, _, World.drewN_drewN _ _ _⟩ | exact ⟨rfl, _, Eq.trans (World.drewN_drewN _ _ _) (congrArg (World.drewN _) (Nat.add_assoc _ _ _))⟩)) | ((with_reducible refine gate_builtin (b := .append) (xs := #[.tmp 44, .tmp 46]) rfl ?_); at_builtin; refine Kd.R_append (Kd.int .i64) (w0 := w) w.heap.size rfl (.tmp 44) (.tmp 46) 29 3 (.int .i64 0) 8 rfl Try.underlying29 info3 rfl (by decide) (by omega) (.slice (some ad303) x4_2.length co14) x4_2 (Go.bits .xor .i64 (rd x4_2 x7_2) (rd l0 x5_1)) [.int .i64 (Go.bits .xor .i64 (rd x4_2 x7_2) (rd l0 x5_1))] (fun _ => True) (fun _ => False) rfl rfl ?aP (fun _ hk => hk.elim) ?aF ?aO ?aB ?aS ?aL ?_; (case aP => exact rfl); (case aB => exact (by repeat (first | (with_reducible first | exact HB.out | apply below_alloc | apply pw_below_drewN | apply below_drew1) | exact HB.out))); (case aF => exact (fun _ _ => trivial)); (case aO => exact (by (with_reducible repeat (first | apply Kd.R_alloc | apply Kd.R_drewN | apply Kd.R_drew)); exact HO_4.out)); (case aS => exact (below_size (by repeat (first | (with_reducible first | exact HB.out | apply below_alloc | apply pw_below_drewN | apply below_drew1) | exact HB.out)))); (case aL => have := LMc13.out; omega); intro v307 w15 ho hb hg hat; rw [← Ny306.out] at ho; have n0_ := Aside0.mk (hb); have n1_ := Aside0.mk (ho); clear HB; clear HO_4; have HB := n0_; have HO308 := n1_; clear n0_ n1_; clear ho hb hg hat)))
                          go_roundg k2
                          case measure => have := HK1.out; have := HK2.out; omega
                          case rel => exact ⟨(t305), (y306), (wrap64 (x7_2 + 1)), (by first | rfl | (simp; done) | (simp [*]; done)), (by first | rfl | (simp; done) | (simp [*]; done)), H', ⟨by have := HK1.out; have := HK2.out; omega⟩, ⟨by (with_reducible repeat (first | apply Kd.R_alloc | apply Kd.R_drewN | apply Kd.R_drew)); exact HO308.out⟩, ⟨by repeat (first | (with_reducible first | exact HB.out | apply below_alloc | apply pw_below_drewN | apply below_drew1) | exact HB.out)⟩⟩
                        · rw [if_neg c13] at H
                          exact absurd H (by simp)
                      · rw [if_neg c12] at H
                        have c12b0 : ((x4_2.length : Int) == 1) = false := beq_eq_false_iff_ne.mpr c12
                        have c12b1 : ((x4_2.length : Int) != 1) = true := bne_iff_ne.mpr c12
                        by_cases c16 : t305 < x3_2
                        · rw [if_pos c16] at H
                          have c16b0 : decide (t305 < x3_2) = true := decide_eq_true c16
                          clear c16
                          by_cases c17 : x4_2.length < 17592186044416
                          · rw [if_pos c17] at H
                            have LMc17 := Aside0.mk c17
                            clear c17
                            obtain ⟨y309, hy309⟩ : ∃ y_ : List Int, y_ = (x4_2 ++ [Go.bits .xor .i64 (rd x4_2 x7_2) (rd l0 x5_1)]) := ⟨_, rfl⟩
                            replace H : (plexuslaw23_least.l1 k2 l0 t305 y309 x5_1 (x4_1.length : Int) (wrap64 (x7_2 + 1))) = some r := by first | (rw [hy309]; with_reducible exact H) | (have H2_ := (Option.bind_some _ _).symm.trans H; rw [hy309]; with_reducible exact H2_) | (have H2_ := (Option.bind_some _ _).symm.trans H; with_reducible exact H2_) | with_reducible exact H | (rw [hy309]; exact H) | exact H
                            have Ny309 := Aside0.mk hy309
                            clear hy309
                            have H' := Aside0.mk H
                            clear H
                            obtain ⟨Ao18, co18, eo18⟩ := Kd.R_slice HO_4.out
                            subst eo18
                            have p303 : 0 ≤ (x7_2 : Int) := of_decide_eq_true (by first | (with_reducible assumption) | assumption)
                            have q303 : x7_2 < (x4_2.length : Int) := of_decide_eq_true (by first | (with_reducible assumption) | assumption)
                            obtain ⟨ad303, e303, hx303_0⟩ := Kd.at_int (Kd.R_reads' HO_4.out).2.2 x7_2 p303 q303
                            cases e303
                            replace p303 := eq_true p303
                            replace q303 := eq_true q303
                            have p304 : 0 ≤ (x5_1 : Int) := of_decide_eq_true (by first | (with_reducible assumption) | assumption)
                            have q304 : x5_1 < (l0.length : Int) := of_decide_eq_true (by first | (with_reducible assumption) | assumption)
                            obtain ⟨ad304, e304, hx304_0⟩ := Kd.at_int HR0.out x5_1 p304 q304
                            cases e304
                            replace hx304_0 := (HB.out.cell (World.block_lt_of_cell? w _ hx304_0)).trans hx304_0
                            replace p304 := eq_true p304
                            replace q304 := eq_true q304
                            go_wp2_with (first | (go_at_call 53; (with_reducible refine (plexusref23_Weight.calls k2 (Go.bits .xor .i64 (rd x4_2 x7_2) (rd l0 x5_1)) t305 _ A11.out).mono ?_); rintro e w' ⟨rfl, ⟨nd, rfl⟩⟩; (try first | exact ⟨rfl, _, World.drewN_drewN _ _ _⟩ | exact ⟨rfl, _, Eq.trans (World.drewN_drewN _ _ _) (congrArg (World.drewN _) (Nat.add_assoc _ _ _))⟩)) | ((with_reducible refine gate_builtin (b := .append) (xs := #[.tmp 44, .tmp 46]) rfl ?_); at_builtin; refine Kd.R_append (Kd.int .i64) (w0 := w) w.heap.size rfl (.tmp 44) (.tmp 46) 29 3 (.int .i64 0) 8 rfl Try.underlying29 info3 rfl (by decide) (by omega) (.slice (some ad303) x4_2.length co18) x4_2 (Go.bits .xor .i64 (rd x4_2 x7_2) (rd l0 x5_1)) [.int .i64 (Go.bits .xor .i64 (rd x4_2 x7_2) (rd l0 x5_1))] (fun _ => True) (fun _ => False) rfl rfl ?aP (fun _ hk => hk.elim) ?aF ?aO ?aB ?aS ?aL ?_; (case aP => exact rfl); (case aB => exact (by repeat (first | (with_reducible first | exact HB.out | apply below_alloc | apply pw_below_drewN | apply below_drew1) | exact HB.out))); (case aF => exact (fun _ _ => trivial)); (case aO => exact (by (with_reducible repeat (first | apply Kd.R_alloc | apply Kd.R_drewN | apply Kd.R_drew)); exact HO_4.out)); (case aS => exact (below_size (by repeat (first | (with_reducible first | exact HB.out | apply below_alloc | apply pw_below_drewN | apply below_drew1) | exact HB.out)))); (case aL => have := LMc17.out; omega); intro v310 w19 ho hb hg hat; rw [← Ny309.out] at ho; have n0_ := Aside0.mk (hb); have n1_ := Aside0.mk (ho); clear HB; clear HO_4; have HB := n0_; have HO311 := n1_; clear n0_ n1_; clear ho hb hg hat))
                            repeat (go_quiet (first | (go_at_call 53; (with_reducible refine (plexusref23_Weight.calls k2 (Go.bits .xor .i64 (rd x4_2 x7_2) (rd l0 x5_1)) t305 _ A11.out).mono ?_); rintro e w' ⟨rfl, ⟨nd, rfl⟩⟩; (try first | exact ⟨rfl, _, World.drewN_drewN _ _ _⟩ | exact ⟨rfl, _, Eq.trans (World.drewN_drewN _ _ _) (congrArg (World.drewN _) (Nat.add_assoc _ _ _))⟩)) | ((with_reducible refine gate_builtin (b := .append) (xs := #[.tmp 44, .tmp 46]) rfl ?_); at_builtin; refine Kd.R_append (Kd.int .i64) (w0 := w) w.heap.size rfl (.tmp 44) (.tmp 46) 29 3 (.int .i64 0) 8 rfl Try.underlying29 info3 rfl (by decide) (by omega) (.slice (some ad303) x4_2.length co18) x4_2 (Go.bits .xor .i64 (rd x4_2 x7_2) (rd l0 x5_1)) [.int .i64 (Go.bits .xor .i64 (rd x4_2 x7_2) (rd l0 x5_1))] (fun _ => True) (fun _ => False) rfl rfl ?aP (fun _ hk => hk.elim) ?aF ?aO ?aB ?aS ?aL ?_; (case aP => exact rfl); (case aB => exact (by repeat (first | (with_reducible first | exact HB.out | apply below_alloc | apply pw_below_drewN | apply below_drew1) | exact HB.out))); (case aF => exact (fun _ _ => trivial)); (case aO => exact (by (with_reducible repeat (first | apply Kd.R_alloc | apply Kd.R_drewN | apply Kd.R_drew)); exact HO_4.out)); (case aS => exact (below_size (by repeat (first | (with_reducible first | exact HB.out | apply below_alloc | apply pw_below_drewN | apply below_drew1) | exact HB.out)))); (case aL => have := LMc17.out; omega); intro v310 w19 ho hb hg hat; rw [← Ny309.out] at ho; have n0_ := Aside0.mk (hb); have n1_ := Aside0.mk (ho); clear HB; clear HO_4; have HB := n0_; have HO311 := n1_; clear n0_ n1_; clear ho hb hg hat)); try go_wp2_with (first | (go_at_call 53; (with_reducible refine (plexusref23_Weight.calls k2 (Go.bits .xor .i64 (rd x4_2 x7_2) (rd l0 x5_1)) t305 _ A11.out).mono ?_); rintro e w' ⟨rfl, ⟨nd, rfl⟩⟩; (try first | exact ⟨rfl, _, World.drewN_drewN _ _ _⟩ | exact ⟨rfl, _, Eq.trans (World.drewN_drewN _ _ _) (congrArg (World.drewN _) (Nat.add_assoc _ _ _))⟩)) | ((with_reducible refine gate_builtin (b := .append) (xs := #[.tmp 44, .tmp 46]) rfl ?_); at_builtin; refine Kd.R_append (Kd.int .i64) (w0 := w) w.heap.size rfl (.tmp 44) (.tmp 46) 29 3 (.int .i64 0) 8 rfl Try.underlying29 info3 rfl (by decide) (by omega) (.slice (some ad303) x4_2.length co18) x4_2 (Go.bits .xor .i64 (rd x4_2 x7_2) (rd l0 x5_1)) [.int .i64 (Go.bits .xor .i64 (rd x4_2 x7_2) (rd l0 x5_1))] (fun _ => True) (fun _ => False) rfl rfl ?aP (fun _ hk => hk.elim) ?aF ?aO ?aB ?aS ?aL ?_; (case aP => exact rfl); (case aB => exact (by repeat (first | (with_reducible first | exact HB.out | apply below_alloc | apply pw_below_drewN | apply below_drew1) | exact HB.out))); (case aF => exact (fun _ _ => trivial)); (case aO => exact (by (with_reducible repeat (first | apply Kd.R_alloc | apply Kd.R_drewN | apply Kd.R_drew)); exact HO_4.out)); (case aS => exact (below_size (by repeat (first | (with_reducible first | exact HB.out | apply below_alloc | apply pw_below_drewN | apply below_drew1) | exact HB.out)))); (case aL => have := LMc17.out; omega); intro v310 w19 ho hb hg hat; rw [← Ny309.out] at ho; have n0_ := Aside0.mk (hb); have n1_ := Aside0.mk (ho); clear HB; clear HO_4; have HB := n0_; have HO311 := n1_; clear n0_ n1_; clear ho hb hg hat)))
                            go_roundg k2
                            case measure => have := HK1.out; have := HK2.out; omega
                            case rel => exact ⟨(t305), (y309), (wrap64 (x7_2 + 1)), (by first | rfl | (simp; done) | (simp [*]; done)), (by first | rfl | (simp; done) | (simp [*]; done)), H', ⟨by have := HK1.out; have := HK2.out; omega⟩, ⟨by (with_reducible repeat (first | apply Kd.R_alloc | apply Kd.R_drewN | apply Kd.R_drew)); exact HO311.out⟩, ⟨by repeat (first | (with_reducible first | exact HB.out | apply below_alloc | apply pw_below_drewN | apply below_drew1) | exact HB.out)⟩⟩
                          · rw [if_neg c17] at H
                            exact absurd H (by simp)
                        · rw [if_neg c16] at H
                          have c16b0 : decide (t305 < x3_2) = false := decide_eq_false c16
                          clear c16
                          by_cases c20 : x4_2.length < 17592186044416
                          · rw [if_pos c20] at H
                            have LMc20 := Aside0.mk c20
                            clear c20
                            obtain ⟨y312, hy312⟩ : ∃ y_ : List Int, y_ = (x4_2 ++ [Go.bits .xor .i64 (rd x4_2 x7_2) (rd l0 x5_1)]) := ⟨_, rfl⟩
                            replace H : (plexuslaw23_least.l1 k2 l0 x3_2 y312 x5_1 (x4_1.length : Int) (wrap64 (x7_2 + 1))) = some r := by first | (rw [hy312]; with_reducible exact H) | (have H2_ := (Option.bind_some _ _).symm.trans H; rw [hy312]; with_reducible exact H2_) | (have H2_ := (Option.bind_some _ _).symm.trans H; with_reducible exact H2_) | with_reducible exact H | (rw [hy312]; exact H) | exact H
                            have Ny312 := Aside0.mk hy312
                            clear hy312
                            have H' := Aside0.mk H
                            clear H
                            obtain ⟨Ao21, co21, eo21⟩ := Kd.R_slice HO_4.out
                            subst eo21
                            have p303 : 0 ≤ (x7_2 : Int) := of_decide_eq_true (by first | (with_reducible assumption) | assumption)
                            have q303 : x7_2 < (x4_2.length : Int) := of_decide_eq_true (by first | (with_reducible assumption) | assumption)
                            obtain ⟨ad303, e303, hx303_0⟩ := Kd.at_int (Kd.R_reads' HO_4.out).2.2 x7_2 p303 q303
                            cases e303
                            replace p303 := eq_true p303
                            replace q303 := eq_true q303
                            have p304 : 0 ≤ (x5_1 : Int) := of_decide_eq_true (by first | (with_reducible assumption) | assumption)
                            have q304 : x5_1 < (l0.length : Int) := of_decide_eq_true (by first | (with_reducible assumption) | assumption)
                            obtain ⟨ad304, e304, hx304_0⟩ := Kd.at_int HR0.out x5_1 p304 q304
                            cases e304
                            replace hx304_0 := (HB.out.cell (World.block_lt_of_cell? w _ hx304_0)).trans hx304_0
                            replace p304 := eq_true p304
                            replace q304 := eq_true q304
                            go_wp2_with (first | (go_at_call 53; (with_reducible refine (plexusref23_Weight.calls k2 (Go.bits .xor .i64 (rd x4_2 x7_2) (rd l0 x5_1)) t305 _ A11.out).mono ?_); rintro e w' ⟨rfl, ⟨nd, rfl⟩⟩; (try first | exact ⟨rfl, _, World.drewN_drewN _ _ _⟩ | exact ⟨rfl, _, Eq.trans (World.drewN_drewN _ _ _) (congrArg (World.drewN _) (Nat.add_assoc _ _ _))⟩)) | ((with_reducible refine gate_builtin (b := .append) (xs := #[.tmp 44, .tmp 46]) rfl ?_); at_builtin; refine Kd.R_append (Kd.int .i64) (w0 := w) w.heap.size rfl (.tmp 44) (.tmp 46) 29 3 (.int .i64 0) 8 rfl Try.underlying29 info3 rfl (by decide) (by omega) (.slice (some ad303) x4_2.length co21) x4_2 (Go.bits .xor .i64 (rd x4_2 x7_2) (rd l0 x5_1)) [.int .i64 (Go.bits .xor .i64 (rd x4_2 x7_2) (rd l0 x5_1))] (fun _ => True) (fun _ => False) rfl rfl ?aP (fun _ hk => hk.elim) ?aF ?aO ?aB ?aS ?aL ?_; (case aP => exact rfl); (case aB => exact (by repeat (first | (with_reducible first | exact HB.out | apply below_alloc | apply pw_below_drewN | apply below_drew1) | exact HB.out))); (case aF => exact (fun _ _ => trivial)); (case aO => exact (by (with_reducible repeat (first | apply Kd.R_alloc | apply Kd.R_drewN | apply Kd.R_drew)); exact HO_4.out)); (case aS => exact (below_size (by repeat (first | (with_reducible first | exact HB.out | apply below_alloc | apply pw_below_drewN | apply below_drew1) | exact HB.out)))); (case aL => have := LMc20.out; omega); intro v313 w22 ho hb hg hat; rw [← Ny312.out] at ho; have n0_ := Aside0.mk (hb); have n1_ := Aside0.mk (ho); clear HB; clear HO_4; have HB := n0_; have HO314 := n1_; clear n0_ n1_; clear ho hb hg hat))
                            repeat (go_quiet (first | (go_at_call 53; (with_reducible refine (plexusref23_Weight.calls k2 (Go.bits .xor .i64 (rd x4_2 x7_2) (rd l0 x5_1)) t305 _ A11.out).mono ?_); rintro e w' ⟨rfl, ⟨nd, rfl⟩⟩; (try first | exact ⟨rfl, _, World.drewN_drewN _ _ _⟩ | exact ⟨rfl, _, Eq.trans (World.drewN_drewN _ _ _) (congrArg (World.drewN _) (Nat.add_assoc _ _ _))⟩)) | ((with_reducible refine gate_builtin (b := .append) (xs := #[.tmp 44, .tmp 46]) rfl ?_); at_builtin; refine Kd.R_append (Kd.int .i64) (w0 := w) w.heap.size rfl (.tmp 44) (.tmp 46) 29 3 (.int .i64 0) 8 rfl Try.underlying29 info3 rfl (by decide) (by omega) (.slice (some ad303) x4_2.length co21) x4_2 (Go.bits .xor .i64 (rd x4_2 x7_2) (rd l0 x5_1)) [.int .i64 (Go.bits .xor .i64 (rd x4_2 x7_2) (rd l0 x5_1))] (fun _ => True) (fun _ => False) rfl rfl ?aP (fun _ hk => hk.elim) ?aF ?aO ?aB ?aS ?aL ?_; (case aP => exact rfl); (case aB => exact (by repeat (first | (with_reducible first | exact HB.out | apply below_alloc | apply pw_below_drewN | apply below_drew1) | exact HB.out))); (case aF => exact (fun _ _ => trivial)); (case aO => exact (by (with_reducible repeat (first | apply Kd.R_alloc | apply Kd.R_drewN | apply Kd.R_drew)); exact HO_4.out)); (case aS => exact (below_size (by repeat (first | (with_reducible first | exact HB.out | apply below_alloc | apply pw_below_drewN | apply below_drew1) | exact HB.out)))); (case aL => have := LMc20.out; omega); intro v313 w22 ho hb hg hat; rw [← Ny312.out] at ho; have n0_ := Aside0.mk (hb); have n1_ := Aside0.mk (ho); clear HB; clear HO_4; have HB := n0_; have HO314 := n1_; clear n0_ n1_; clear ho hb hg hat)); try go_wp2_with (first | (go_at_call 53; (with_reducible refine (plexusref23_Weight.calls k2 (Go.bits .xor .i64 (rd x4_2 x7_2) (rd l0 x5_1)) t305 _ A11.out).mono ?_); rintro e w' ⟨rfl, ⟨nd, rfl⟩⟩; (try first | exact ⟨rfl, _, World.drewN_drewN _ _ _⟩ | exact ⟨rfl, _, Eq.trans (World.drewN_drewN _ _ _) (congrArg (World.drewN _) (Nat.add_assoc _ _ _))⟩)) | ((with_reducible refine gate_builtin (b := .append) (xs := #[.tmp 44, .tmp 46]) rfl ?_); at_builtin; refine Kd.R_append (Kd.int .i64) (w0 := w) w.heap.size rfl (.tmp 44) (.tmp 46) 29 3 (.int .i64 0) 8 rfl Try.underlying29 info3 rfl (by decide) (by omega) (.slice (some ad303) x4_2.length co21) x4_2 (Go.bits .xor .i64 (rd x4_2 x7_2) (rd l0 x5_1)) [.int .i64 (Go.bits .xor .i64 (rd x4_2 x7_2) (rd l0 x5_1))] (fun _ => True) (fun _ => False) rfl rfl ?aP (fun _ hk => hk.elim) ?aF ?aO ?aB ?aS ?aL ?_; (case aP => exact rfl); (case aB => exact (by repeat (first | (with_reducible first | exact HB.out | apply below_alloc | apply pw_below_drewN | apply below_drew1) | exact HB.out))); (case aF => exact (fun _ _ => trivial)); (case aO => exact (by (with_reducible repeat (first | apply Kd.R_alloc | apply Kd.R_drewN | apply Kd.R_drew)); exact HO_4.out)); (case aS => exact (below_size (by repeat (first | (with_reducible first | exact HB.out | apply below_alloc | apply pw_below_drewN | apply below_drew1) | exact HB.out)))); (case aL => have := LMc20.out; omega); intro v313 w22 ho hb hg hat; rw [← Ny312.out] at ho; have n0_ := Aside0.mk (hb); have n1_ := Aside0.mk (ho); clear HB; clear HO_4; have HB := n0_; have HO314 := n1_; clear n0_ n1_; clear ho hb hg hat)))
                            go_roundg k2
                            case measure => have := HK1.out; have := HK2.out; omega
                            case rel => exact ⟨(x3_2), (y312), (wrap64 (x7_2 + 1)), (by first | rfl | (simp; done) | (simp [*]; done)), (by first | rfl | (simp; done) | (simp [*]; done)), H', ⟨by have := HK1.out; have := HK2.out; omega⟩, ⟨by (with_reducible repeat (first | apply Kd.R_alloc | apply Kd.R_drewN | apply Kd.R_drew)); exact HO314.out⟩, ⟨by repeat (first | (with_reducible first | exact HB.out | apply below_alloc | apply pw_below_drewN | apply below_drew1) | exact HB.out)⟩⟩
                          · rw [if_neg c20] at H
                            exact absurd H (by simp)
                    · rw [if_neg c10] at H
                      exact absurd H (by simp)
                  · rw [if_neg c9] at H
                    exact absurd H (by simp)
                · rw [if_neg c8] at H
                  exact absurd H (by simp)
              · rw [if_neg c7] at H
                exact absurd H (by simp)
            · rw [if_neg c6] at H
              have c6b0 : decide (x7_2 < (x4_1.length : Int)) = false := decide_eq_false c6
              clear c6
              have H' := Aside0.mk H
              clear H
              go_wp2
              repeat (go_quiet (fail); try go_wp2)
              go_roundg k2
              case measure => have := HK1.out; have := HK2.out; omega
              case rel => exact ⟨(x3_2), (x4_2), (wrap64 (x5_1 + 1)), (by first | rfl | (simp; done) | (simp [*]; done)), (by first | rfl | (simp; done) | (simp [*]; done)), H', ⟨by have := HK1.out; have := HK2.out; omega⟩, ⟨by (with_reducible repeat (first | apply Kd.R_alloc | apply Kd.R_drewN | apply Kd.R_drew)); exact HO_4.out⟩, ⟨by repeat (first | (with_reducible first | exact HB.out | apply below_alloc | apply pw_below_drewN | apply below_drew1) | exact HB.out)⟩⟩
      · rw [if_neg c4] at H
        have c4b0 : decide (x5_1 < (l0.length : Int)) = false := decide_eq_false c4
        clear c4
        obtain rfl := Option.some.inj H
        go_wp2
        repeat (go_quiet (fail); try go_wp2)
        go_ret
        exact ⟨by first | rfl | (simp [errW_none, errW_some] <;> rfl) | (simp [*, errW_none, errW_some] <;> rfl), by repeat (first | (with_reducible first | exact HB.out | apply below_alloc | apply pw_below_drewN | apply below_drew1) | exact HB.out)⟩

end Go.Proofs.Ytcanekmlabehgaa.P
