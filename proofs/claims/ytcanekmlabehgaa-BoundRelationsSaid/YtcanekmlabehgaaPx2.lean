-- PRINTED by print.py (a twelfth state) out of the translation. Not trusted: Lean checks it.
import Derived.Test.YtcanekmlabehgaaPx0
namespace Go.Proofs.Ytcanekmlabehgaa.P
open Go.RowKit Go.Proofs.YtcanekmlabehgaaW.PrintWords Go.Proofs.YtcanekmlabehgaaW.PrintLast Go.Proofs.YtcanekmlabehgaaW.PrintMore
attribute [local go_sem] max2_int min2_int max_two min_two max_three min_three max_four min_four   -- for this text's walks alone
set_option linter.unusedVariables false
set_option linter.unusedSimpArgs false

/-! ### bound_fine: function 111 -/
def bound_fine.f (a0 : Int) (a1 : Int) (a2 : Int) : Option (Bool) := if 1 ≤ a2 then (if a2 ≤ a1 then (some (decide (a1 ≤ a0))) else (some false)) else (some false)
set_option maxHeartbeats 8000000 in
set_option maxRecDepth 100000 in
theorem bound_fine.calls (a0 : Int) (a1 : Int) (a2 : Int) (r : Bool) (w : World) (h : bound_fine.f a0 a1 a2 = some r) :
    Calls Try.prog 111 #[.int .i64 a0, .int .i64 a1, .int .i64 a2] w fun e w' => e = .returned (.bool r) ∧ Drawn0 w w' := by
  have H : (if 1 ≤ a2 then (if a2 ≤ a1 then (some (decide (a1 ≤ a0))) else (some false)) else (some false)) = some r := h
  clear h
  by_cases c4 : 1 ≤ a2
  · rw [if_pos c4] at H
    have c4b0 : decide (1 ≤ a2) = true := decide_eq_true c4
    clear c4
    by_cases c5 : a2 ≤ a1
    · rw [if_pos c5] at H
      have c5b0 : decide (a2 ≤ a1) = true := decide_eq_true c5
      clear c5
      obtain rfl := Option.some.inj H
      go_enter Try.func111, Try.ntmps111
      go_wp2
      go_ret
      exact ⟨by first | rfl | (simp; done) | (simp [*]; done), by repeat (first | exact Drawn0.refl _ | apply Drawn0.step)⟩
    · rw [if_neg c5] at H
      have c5b0 : decide (a2 ≤ a1) = false := decide_eq_false c5
      clear c5
      obtain rfl := Option.some.inj H
      go_enter Try.func111, Try.ntmps111
      go_wp2
      go_ret
      exact ⟨by first | rfl | (simp; done) | (simp [*]; done), by repeat (first | exact Drawn0.refl _ | apply Drawn0.step)⟩
  · rw [if_neg c4] at H
    have c4b0 : decide (1 ≤ a2) = false := decide_eq_false c4
    clear c4
    obtain rfl := Option.some.inj H
    go_enter Try.func111, Try.ntmps111
    go_wp2
    go_ret
    exact ⟨by first | rfl | (simp; done) | (simp [*]; done), by repeat (first | exact Drawn0.refl _ | apply Drawn0.step)⟩

/-! ### bound_Sphere: function 86 -/
def bound_Sphere.l0 : Nat → Int → Int → Int → Int → Int → Option (Int × Int)
  | 0, _, _, _, _, _ => none
  | k + 1, x0, x6, x7, x15, x16 => if x16 < x15 then (if (wrap64 (x16 + 1)) = 0 then (none) else (bound_Sphere.l0 k x0 (wrap64 (x6 + (wrap64 (Int.tdiv (wrap64 (x7 * (wrap64 (x0 - x16)))) (wrap64 (x16 + 1)))))) (wrap64 (Int.tdiv (wrap64 (x7 * (wrap64 (x0 - x16)))) (wrap64 (x16 + 1)))) x15 (wrap64 (x16 + 1)))) else (if 0 ≤ x0 then (if x6 = 0 then (none) else (some (wrap64 (Int.tdiv (shl .i64 1 x0) x6), 0))) else (none))
def bound_Sphere.f (k : Nat) (a0 : Int) (a1 : Int) : Option (Int × Int) := (bound_fine.f 16 a0 a1).bind fun t101 => (if t101 = true then (bound_Sphere.l0 k a0 1 1 (wrap64 (Int.tdiv (wrap64 (a1 - 1)) 2)) 0) else (some (0, 1)))
theorem bound_Sphere.mono_l : ∀ k, (∀ y0 y1 y2 y3 y4, LeO (bound_Sphere.l0 k y0 y1 y2 y3 y4) (bound_Sphere.l0 (k + 1) y0 y1 y2 y3 y4))
  | 0 => fun _ _ _ _ _ r h => by simp [bound_Sphere.l0] at h
  | k + 1 => by
    have ih0 := bound_Sphere.mono_l k
    · intro y0 y1 y2 y3 y4
      unfold bound_Sphere.l0
      repeat' first
      | (with_reducible exact ih0 _ _ _ _ _)
      | (with_reducible exact LeO.refl _)
      | (with_reducible exact LeO.none _)
      | (with_reducible refine LeO.ite ?_ ?_)
      | (with_reducible refine LeO.bind ?_ (fun _ => ?_))
      | exact ih0 _ _ _ _ _
      | exact LeO.none _
      | refine LeO.ite ?_ ?_
      | refine LeO.bind ?_ (fun _ => ?_)
theorem bound_Sphere.mono : ∀ a0 a1 k, LeO (bound_Sphere.f k a0 a1) (bound_Sphere.f (k + 1) a0 a1) := by
  intro a0 a1 k
  have ih0 := bound_Sphere.mono_l k
  unfold bound_Sphere.f
  repeat' first
      | (with_reducible exact ih0 _ _ _ _ _)
      | (with_reducible exact LeO.refl _)
      | (with_reducible exact LeO.none _)
      | (with_reducible refine LeO.ite ?_ ?_)
      | (with_reducible refine LeO.bind ?_ (fun _ => ?_))
      | exact ih0 _ _ _ _ _
      | exact LeO.none _
      | refine LeO.ite ?_ ?_
      | refine LeO.bind ?_ (fun _ => ?_)
set_option maxHeartbeats 8000000 in
set_option maxRecDepth 100000 in
theorem bound_Sphere.calls (k : Nat) (a0 : Int) (a1 : Int) (r1 : Int) (r2 : Int) (w : World) (h : bound_Sphere.f k a0 a1 = some (r1, r2)) :
    Calls Try.prog 86 #[.int .i64 a0, .int .i64 a1] w fun e w' => e = .returned (.tuple #[.int .i64 r1, .int .i64 r2]) ∧ Drawn0 w w' := by
  have H : ((bound_fine.f 16 a0 a1).bind fun t101 => (if t101 = true then (bound_Sphere.l0 k a0 1 1 (wrap64 (Int.tdiv (wrap64 (a1 - 1)) 2)) 0) else (some (0, 1)))) = some (r1, r2) := h
  clear h
  replace H := Option.bind_eq_some_iff.mp H
  obtain ⟨t101, A30, H⟩ := H
  replace H : (if t101 = true then (bound_Sphere.l0 k a0 1 1 (wrap64 (Int.tdiv (wrap64 (a1 - 1)) 2)) 0) else (some (0, 1))) = some (r1, r2) := H
  have A3 := Aside0.mk A30
  clear A30
  by_cases c4 : t101 = true
  · subst c4
    have H1 : (bound_Sphere.l0 k a0 1 1 (wrap64 (Int.tdiv (wrap64 (a1 - 1)) 2)) 0) = some (r1, r2) := by rw [if_pos rfl] at H; exact H
    clear H
    have H := H1
    clear H1
    have H' := Aside0.mk H
    clear H
    go_enter Try.func86, Try.ntmps86
    go_wp2_with (first | ((with_reducible refine gate_callee (f := 111) rfl ?_); refine goesL_ (some 11) rfl rfl Try.func111 (by kernel_rfl) rfl #[.int .i64 16, .int .i64 a0, .int .i64 a1] rfl (by (try simp only [List.map_toArray, List.map_cons, List.map_nil]); first | done | rfl | (simp only [List.length_drop, List.length_take]; rfl)) ?_; (with_reducible refine (bound_fine.calls 16 a0 a1 true _ A3.out).mono ?_); rintro e w' ⟨rfl, ⟨nd, rfl⟩⟩; refine ⟨_, rfl, ?_⟩))
    go_loopg [6, 7, 16] k (fun kq v6 v7 v16 w' => ∃ (x6_1 : Int) (x7_1 : Int) (x16_1 : Int), v6 = .int .i64 x6_1 ∧ v7 = .int .i64 x7_1 ∧ v16 = .int .i64 x16_1 ∧ Aside0 (bound_Sphere.l0 kq a0 x6_1 x7_1 (wrap64 (Int.tdiv (wrap64 (a1 - 1)) 2)) x16_1 = some (r1, r2)) ∧ Aside0 (kq ≤ k) ∧ Drawn0 w w')
    case atStart => exact ⟨(1), (1), (0), (by first | rfl | (simp; done) | (congr 2; (try unfold wrap64); omega) | (simp [*]; done)), (by first | rfl | (simp; done) | (congr 2; (try unfold wrap64); omega) | (simp [*]; done)), (by first | rfl | (simp; done) | (congr 2; (try unfold wrap64); omega) | (simp [*]; done)), H', ⟨Nat.le_refl _⟩, by repeat (first | exact Drawn0.refl _ | apply Drawn0.step)⟩
    case round =>
      clear H'
      try clear c1
      try clear p2
      try clear c4
      obtain ⟨x6_1, x7_1, x16_1, rfl, rfl, rfl, HA, HK1, ⟨m1, rfl⟩⟩ := hrel
      cases gk with
      | zero => exact absurd HA.out (by simp [bound_Sphere.l0])
      | succ k1 =>
        have H := HA.out
        clear HA
        simp only [bound_Sphere.l0] at H
        by_cases c5 : x16_1 < (wrap64 (Int.tdiv (wrap64 (a1 - 1)) 2))
        · rw [if_pos c5] at H
          have c5b0 : decide (x16_1 < (wrap64 (Int.tdiv (wrap64 (a1 - 1)) 2))) = true := decide_eq_true c5
          clear c5
          by_cases c6 : (wrap64 (x16_1 + 1)) = 0
          · rw [if_pos c6] at H
            exact absurd H (by simp)
          · rw [if_neg c6] at H
            have c6b0 : ((wrap64 (x16_1 + 1)) == 0) = false := beq_eq_false_iff_ne.mpr c6
            have c6b1 : ((wrap64 (x16_1 + 1)) != 0) = true := bne_iff_ne.mpr c6
            have H' := Aside0.mk H
            clear H
            go_wp2
            go_roundg k1
            case measure => have := HK1.out; omega
            case rel => exact ⟨(wrap64 (x6_1 + (wrap64 (Int.tdiv (wrap64 (x7_1 * (wrap64 (a0 - x16_1)))) (wrap64 (x16_1 + 1)))))), (wrap64 (Int.tdiv (wrap64 (x7_1 * (wrap64 (a0 - x16_1)))) (wrap64 (x16_1 + 1)))), (wrap64 (x16_1 + 1)), (by first | rfl | (simp; done) | (congr 2; (try unfold wrap64); omega) | (simp [*]; done)), (by first | rfl | (simp; done) | (congr 2; (try unfold wrap64); omega) | (simp [*]; done)), (by first | rfl | (simp; done) | (congr 2; (try unfold wrap64); omega) | (simp [*]; done)), H', ⟨by have := HK1.out; omega⟩, by repeat (first | exact Drawn0.refl _ | apply Drawn0.step)⟩
        · rw [if_neg c5] at H
          have c5b0 : decide (x16_1 < (wrap64 (Int.tdiv (wrap64 (a1 - 1)) 2))) = false := decide_eq_false c5
          clear c5
          by_cases c7 : 0 ≤ a0
          · rw [if_pos c7] at H
            have c7b0 := eq_true c7
            have c7b1 : decide (0 ≤ a0) = true := decide_eq_true c7
            clear c7
            obtain ⟨ji8, hji8⟩ : ∃ j_ : Int, (shl .i64 1 a0) = j_ := ⟨_, rfl⟩
            replace H : (if x6_1 = 0 then (none) else (some (wrap64 (Int.tdiv (ji8) x6_1), 0))) = some (r1, r2) := by first | (rw [hji8] at H; exact H) | (simp only [hji8] at H ⊢; exact H)
            have hji8_ : (IntKind.i64.wrap (1 * 2 ^ min a0.toNat 64)) = ji8 := hji8
            have hji8z : a0 ≤ 64 → (IntKind.i64.wrap (1 * 2 ^ a0.toNat)) = ji8 := shl_small hji8
            have hji8u : (IntKind.i64.wrap (2 ^ min a0.toNat 64)) = ji8 := by have h_ := hji8_; rw [Int.one_mul] at h_; exact h_
            have hji8v : a0 ≤ 64 → (IntKind.i64.wrap (2 ^ a0.toNat)) = ji8 := fun hle_ => by have h_ := hji8z hle_; rw [Int.one_mul] at h_; exact h_
            have hji8y : (wrap64 (1 * 2 ^ min a0.toNat 64)) = ji8 := (i64_w _).symm.trans hji8_
            have hji8x : a0 ≤ 64 → (wrap64 (1 * 2 ^ a0.toNat)) = ji8 := fun h_ => (i64_w _).symm.trans (hji8z h_)
            by_cases c9 : x6_1 = 0
            · rw [if_pos c9] at H
              exact absurd H (by simp)
            · rw [if_neg c9] at H
              have c9b0 : (x6_1 == 0) = false := beq_eq_false_iff_ne.mpr c9
              have c9b1 : (x6_1 != 0) = true := bne_iff_ne.mpr c9
              simp only [Option.some.injEq, Prod.mk.injEq] at H
              obtain ⟨rfl, rfl⟩ := H
              go_wp2
              go_ret2
              exact ⟨by first | rfl | (simp; done) | (simp only [← hji8] <;> (first | rfl | simp)) | (simp [*]; done), by repeat (first | exact Drawn0.refl _ | apply Drawn0.step)⟩
          · rw [if_neg c7] at H
            exact absurd H (by simp)
  · replace c4 := Bool.eq_false_iff.mpr c4
    subst c4
    have H1 : (some (0, 1)) = some (r1, r2) := by rw [if_neg (show ¬ (false = true) by decide)] at H; exact H
    clear H
    have H := H1
    clear H1
    simp only [Option.some.injEq, Prod.mk.injEq] at H
    obtain ⟨rfl, rfl⟩ := H
    go_enter Try.func86, Try.ntmps86
    go_wp2_with (first | ((with_reducible refine gate_callee (f := 111) rfl ?_); refine goesL_ (some 11) rfl rfl Try.func111 (by kernel_rfl) rfl #[.int .i64 16, .int .i64 a0, .int .i64 a1] rfl (by (try simp only [List.map_toArray, List.map_cons, List.map_nil]); first | done | rfl | (simp only [List.length_drop, List.length_take]; rfl)) ?_; (with_reducible refine (bound_fine.calls 16 a0 a1 false _ A3.out).mono ?_); rintro e w' ⟨rfl, ⟨nd, rfl⟩⟩; refine ⟨_, rfl, ?_⟩))
    go_ret2
    exact ⟨by first | rfl | (simp; done) | (simp [*]; done), by repeat (first | exact Drawn0.refl _ | apply Drawn0.step)⟩

/-! ### plexuslaw23_sphere: function 36 -/
def plexuslaw23_sphere.f (k : Nat) (a0 : Int) (a1 : Int) : Option (Int × Int) := (bound_Sphere.f k a0 a1).bind fun bt103 => (some (bt103.1, bt103.2))
theorem plexuslaw23_sphere.mono : ∀ a0 a1 k, LeO (plexuslaw23_sphere.f k a0 a1) (plexuslaw23_sphere.f (k + 1) a0 a1) := by
  intro a0 a1 k
  unfold plexuslaw23_sphere.f
  repeat' first
      | (with_reducible exact bound_Sphere.mono _ _ _)
      | (with_reducible exact LeO.refl _)
      | (with_reducible exact LeO.none _)
      | (with_reducible refine LeO.ite ?_ ?_)
      | (with_reducible refine LeO.bind ?_ (fun _ => ?_))
      | exact bound_Sphere.mono _ _ _
      | exact LeO.none _
      | refine LeO.ite ?_ ?_
      | refine LeO.bind ?_ (fun _ => ?_)
set_option maxHeartbeats 8000000 in
set_option maxRecDepth 100000 in
theorem plexuslaw23_sphere.calls (k : Nat) (a0 : Int) (a1 : Int) (r1 : Int) (r2 : Int) (w : World) (h : plexuslaw23_sphere.f k a0 a1 = some (r1, r2)) :
    Calls Try.prog 36 #[.int .i64 a0, .int .i64 a1] w fun e w' => e = .returned (.agg #[.int .i64 r1, .int .i64 r2]) ∧ Below w.heap.size w w' := by
  have hu52 := Try.underlying52
  have HB := Aside0.mk (Below.refl w.heap.size w)
  have H : ((bound_Sphere.f k a0 a1).bind fun bt103 => (some (bt103.1, bt103.2))) = some (r1, r2) := h
  clear h
  replace H := Option.bind_eq_some_iff.mp H
  obtain ⟨⟨t103, t104⟩, A30, H⟩ := H
  replace H : (some (t103, t104)) = some (r1, r2) := H
  have A3 := Aside0.mk A30
  clear A30
  simp only [Option.some.injEq, Prod.mk.injEq] at H
  obtain ⟨rfl, rfl⟩ := H
  go_enter Try.func36, Try.ntmps36
  go_wp2_with (first | ((with_reducible refine gate_dst (N := 4) rfl ?_); refine box_event ?hg (N := 4) ?hd (cs := #[.int .i64 0, .int .i64 0]) (t := 52) ?hr ?_; (case hd => rfl); (case hg => rfl); (case hr => first | (go_simp; done) | (go_simp; rfl)); intro gb102 hg w4 hbox hb; have n0_ := Aside0.mk (below_step (by repeat (first | (with_reducible first | exact HB.out | apply below_alloc | apply pw_below_drewN | apply below_drew1) | exact HB.out)) hb); have n1_ := Aside0.mk (hbox); have n2_ := Aside0.mk ((by rw [hg]; exact (below_size (by repeat (first | (with_reducible first | exact HB.out | apply below_alloc | apply pw_below_drewN | apply below_drew1) | exact HB.out))) : w.heap.size ≤ gb102)); have n3_ := Aside0.mk ((by rw [hg]; exact (below_size (by repeat (first | (with_reducible first | exact HB.out | apply below_alloc | apply pw_below_drewN | apply below_drew1) | exact HB.out))) : w.heap.size ≤ gb102)); clear HB; have HB := n0_; have BK102 := n1_; have GW102 := n2_; have GE102 := n3_; clear n0_ n1_ n2_ n3_; clear hb hbox hg) | ((with_reducible refine gate_callee (f := 86) rfl ?_); refine goesL_ (some 10) rfl rfl Try.func86 (by kernel_rfl) rfl #[.int .i64 a0, .int .i64 a1] rfl (by (try simp only [List.map_toArray, List.map_cons, List.map_nil]); first | done | rfl | (simp only [List.length_drop, List.length_take]; rfl)) ?_; (with_reducible refine (bound_Sphere.calls k a0 a1 t103 t104 _ A3.out).mono ?_); rintro e w' ⟨rfl, ⟨nd, rfl⟩⟩; refine ⟨_, rfl, ?_⟩; (try (rw [drewN_self w4]; generalize hq_ : World.drewN w4 _ = w4; have n0_ : Aside0 (w4.heap[gb102]? = some (.cells #[.int .i64 0, .int .i64 0] 52 (0, 0))) := ⟨by rw [← hq_]; exact (by (with_reducible repeat (first | refine blk_drewN ?_ _ | refine blk_drew ?_ | refine blk_alloc ?_ _)); exact BK102.out)⟩; have n1_ : Aside0 (Below w.heap.size w w4) := ⟨by rw [← hq_]; exact (by repeat (first | (with_reducible first | exact HB.out | apply below_alloc | apply pw_below_drewN | apply below_drew1 | refine below_set ?_ GE102.out) | exact HB.out))⟩; clear BK102 HB hq_; have BK102 := n0_; have HB := n1_; clear n0_ n1_)); have hcz5_0 : w4.cell? ⟨gb102, 0, none⟩ = some (.int .i64 0) := (blk_cell BK102.out 0).trans rfl; have hcz5_1 : w4.cell? ⟨gb102, 1, none⟩ = some (.int .i64 0) := (blk_cell BK102.out 1).trans rfl; have hfz5_0 := blk_frozen BK102.out 0; have hfz5_1 := blk_frozen BK102.out 1))
  refine bodyPost_ret (results_cell_row rfl _ _ gb102 52 #[.int .i64 t103, .int .i64 t104] (0, 0) _ rfl (by (with_reducible repeat (first | refine blk_drewN ?_ _ | refine blk_drew ?_ | refine blk_alloc ?_ _)); refine blk_put (cs := #[.int .i64 t103, .int .i64 0]) ?_ 1 _ rfl; (with_reducible repeat (first | refine blk_drewN ?_ _ | refine blk_drew ?_ | refine blk_alloc ?_ _)); refine blk_put (cs := #[.int .i64 0, .int .i64 0]) ?_ 0 _ rfl; (with_reducible repeat (first | refine blk_drewN ?_ _ | refine blk_drew ?_ | refine blk_alloc ?_ _)); exact BK102.out) Try.underlying52 rfl (by kernel_rfl)) rfl ?_
  exact ⟨by first | rfl | (simp [errW_none, errW_some] <;> rfl) | (simp [*, errW_none, errW_some] <;> rfl), by repeat (first | (with_reducible first | exact HB.out | apply below_alloc | apply pw_below_drewN | apply below_drew1 | refine below_set ?_ GE102.out) | exact HB.out)⟩

/-! ### bound_Singleton: function 89 -/
def bound_Singleton.f (a0 : Int) (a1 : Int) : Option (Int × Int) := (bound_fine.f 16 a0 a1).bind fun t105 => (if t105 = true then (if 0 ≤ (wrap64 (a0 - a1)) then (some (shl .i64 2 (wrap64 (a0 - a1)), 0)) else (none)) else (some (0, 1)))
set_option maxHeartbeats 8000000 in
set_option maxRecDepth 100000 in
theorem bound_Singleton.calls (a0 : Int) (a1 : Int) (r1 : Int) (r2 : Int) (w : World) (h : bound_Singleton.f a0 a1 = some (r1, r2)) :
    Calls Try.prog 89 #[.int .i64 a0, .int .i64 a1] w fun e w' => e = .returned (.tuple #[.int .i64 r1, .int .i64 r2]) ∧ Drawn0 w w' := by
  have H : ((bound_fine.f 16 a0 a1).bind fun t105 => (if t105 = true then (if 0 ≤ (wrap64 (a0 - a1)) then (some (shl .i64 2 (wrap64 (a0 - a1)), 0)) else (none)) else (some (0, 1)))) = some (r1, r2) := h
  clear h
  replace H := Option.bind_eq_some_iff.mp H
  obtain ⟨t105, A30, H⟩ := H
  replace H : (if t105 = true then (if 0 ≤ (wrap64 (a0 - a1)) then (some (shl .i64 2 (wrap64 (a0 - a1)), 0)) else (none)) else (some (0, 1))) = some (r1, r2) := H
  have A3 := Aside0.mk A30
  clear A30
  by_cases c4 : t105 = true
  · subst c4
    have H1 : (if 0 ≤ (wrap64 (a0 - a1)) then (some (shl .i64 2 (wrap64 (a0 - a1)), 0)) else (none)) = some (r1, r2) := by rw [if_pos rfl] at H; exact H
    clear H
    have H := H1
    clear H1
    obtain ⟨ji5, hji5⟩ : ∃ j_ : Int, (wrap64 (a0 - a1)) = j_ := ⟨_, rfl⟩
    replace H : (if 0 ≤ (ji5) then (some (shl .i64 2 (ji5), 0)) else (none)) = some (r1, r2) := by first | (rw [hji5] at H; exact H) | (simp only [hji5] at H ⊢; exact H)
    (try rw [hji5] at A3)
    have hji5w : (IntKind.i64.wrap (a0 - a1)) = ji5 := (i64_w _).trans hji5
    by_cases c6 : 0 ≤ (ji5)
    · rw [if_pos c6] at H
      have c6b0 := eq_true c6
      have c6b1 : decide (0 ≤ (ji5)) = true := decide_eq_true c6
      clear c6
      obtain ⟨ji7, hji7⟩ : ∃ j_ : Int, (shl .i64 2 (ji5)) = j_ := ⟨_, rfl⟩
      replace H : (some (ji7, 0)) = some (r1, r2) := by first | (rw [hji7] at H; exact H) | (simp only [hji7] at H ⊢; exact H)
      (try rw [hji7] at A3)
      have hji7_ : (IntKind.i64.wrap (2 * 2 ^ min (ji5).toNat 64)) = ji7 := hji7
      have hji7z : (ji5) ≤ 64 → (IntKind.i64.wrap (2 * 2 ^ (ji5).toNat)) = ji7 := shl_small hji7
      have hji7y : (wrap64 (2 * 2 ^ min (ji5).toNat 64)) = ji7 := (i64_w _).symm.trans hji7_
      have hji7x : (ji5) ≤ 64 → (wrap64 (2 * 2 ^ (ji5).toNat)) = ji7 := fun h_ => (i64_w _).symm.trans (hji7z h_)
      simp only [Option.some.injEq, Prod.mk.injEq] at H
      obtain ⟨rfl, rfl⟩ := H
      go_enter Try.func89, Try.ntmps89
      go_wp2_with (first | ((with_reducible refine gate_callee (f := 111) rfl ?_); refine goesL_ (some 8) rfl rfl Try.func111 (by kernel_rfl) rfl #[.int .i64 16, .int .i64 a0, .int .i64 a1] rfl (by (try simp only [List.map_toArray, List.map_cons, List.map_nil]); first | done | rfl | (simp only [List.length_drop, List.length_take]; rfl)) ?_; (with_reducible refine (bound_fine.calls 16 a0 a1 true _ A3.out).mono ?_); rintro e w' ⟨rfl, ⟨nd, rfl⟩⟩; refine ⟨_, rfl, ?_⟩))
      go_ret2
      exact ⟨by first | rfl | (simp; done) | (simp only [← hji5, ← hji7] <;> (first | rfl | simp)) | (simp [*]; done), by repeat (first | exact Drawn0.refl _ | apply Drawn0.step)⟩
    · rw [if_neg c6] at H
      exact absurd H (by simp)
  · replace c4 := Bool.eq_false_iff.mpr c4
    subst c4
    have H1 : (some (0, 1)) = some (r1, r2) := by rw [if_neg (show ¬ (false = true) by decide)] at H; exact H
    clear H
    have H := H1
    clear H1
    simp only [Option.some.injEq, Prod.mk.injEq] at H
    obtain ⟨rfl, rfl⟩ := H
    go_enter Try.func89, Try.ntmps89
    go_wp2_with (first | ((with_reducible refine gate_callee (f := 111) rfl ?_); refine goesL_ (some 8) rfl rfl Try.func111 (by kernel_rfl) rfl #[.int .i64 16, .int .i64 a0, .int .i64 a1] rfl (by (try simp only [List.map_toArray, List.map_cons, List.map_nil]); first | done | rfl | (simp only [List.length_drop, List.length_take]; rfl)) ?_; (with_reducible refine (bound_fine.calls 16 a0 a1 false _ A3.out).mono ?_); rintro e w' ⟨rfl, ⟨nd, rfl⟩⟩; refine ⟨_, rfl, ?_⟩))
    go_ret2
    exact ⟨by first | rfl | (simp; done) | (simp [*]; done), by repeat (first | exact Drawn0.refl _ | apply Drawn0.step)⟩

/-! ### plexuslaw23_singleton: function 38 -/
def plexuslaw23_singleton.f (a0 : Int) (a1 : Int) : Option (Int × Int) := (bound_Singleton.f a0 a1).bind fun bt107 => (some (bt107.1, bt107.2))
set_option maxHeartbeats 8000000 in
set_option maxRecDepth 100000 in
theorem plexuslaw23_singleton.calls (a0 : Int) (a1 : Int) (r1 : Int) (r2 : Int) (w : World) (h : plexuslaw23_singleton.f a0 a1 = some (r1, r2)) :
    Calls Try.prog 38 #[.int .i64 a0, .int .i64 a1] w fun e w' => e = .returned (.agg #[.int .i64 r1, .int .i64 r2]) ∧ Below w.heap.size w w' := by
  have hu52 := Try.underlying52
  have HB := Aside0.mk (Below.refl w.heap.size w)
  have H : ((bound_Singleton.f a0 a1).bind fun bt107 => (some (bt107.1, bt107.2))) = some (r1, r2) := h
  clear h
  replace H := Option.bind_eq_some_iff.mp H
  obtain ⟨⟨t107, t108⟩, A30, H⟩ := H
  replace H : (some (t107, t108)) = some (r1, r2) := H
  have A3 := Aside0.mk A30
  clear A30
  simp only [Option.some.injEq, Prod.mk.injEq] at H
  obtain ⟨rfl, rfl⟩ := H
  go_enter Try.func38, Try.ntmps38
  go_wp2_with (first | ((with_reducible refine gate_dst (N := 4) rfl ?_); refine box_event ?hg (N := 4) ?hd (cs := #[.int .i64 0, .int .i64 0]) (t := 52) ?hr ?_; (case hd => rfl); (case hg => rfl); (case hr => first | (go_simp; done) | (go_simp; rfl)); intro gb106 hg w4 hbox hb; have n0_ := Aside0.mk (below_step (by repeat (first | (with_reducible first | exact HB.out | apply below_alloc | apply pw_below_drewN | apply below_drew1) | exact HB.out)) hb); have n1_ := Aside0.mk (hbox); have n2_ := Aside0.mk ((by rw [hg]; exact (below_size (by repeat (first | (with_reducible first | exact HB.out | apply below_alloc | apply pw_below_drewN | apply below_drew1) | exact HB.out))) : w.heap.size ≤ gb106)); have n3_ := Aside0.mk ((by rw [hg]; exact (below_size (by repeat (first | (with_reducible first | exact HB.out | apply below_alloc | apply pw_below_drewN | apply below_drew1) | exact HB.out))) : w.heap.size ≤ gb106)); clear HB; have HB := n0_; have BK106 := n1_; have GW106 := n2_; have GE106 := n3_; clear n0_ n1_ n2_ n3_; clear hb hbox hg) | ((with_reducible refine gate_callee (f := 89) rfl ?_); refine goesL_ (some 10) rfl rfl Try.func89 (by kernel_rfl) rfl #[.int .i64 a0, .int .i64 a1] rfl (by (try simp only [List.map_toArray, List.map_cons, List.map_nil]); first | done | rfl | (simp only [List.length_drop, List.length_take]; rfl)) ?_; (with_reducible refine (bound_Singleton.calls a0 a1 t107 t108 _ A3.out).mono ?_); rintro e w' ⟨rfl, ⟨nd, rfl⟩⟩; refine ⟨_, rfl, ?_⟩; (try (rw [drewN_self w4]; generalize hq_ : World.drewN w4 _ = w4; have n0_ : Aside0 (w4.heap[gb106]? = some (.cells #[.int .i64 0, .int .i64 0] 52 (0, 0))) := ⟨by rw [← hq_]; exact (by (with_reducible repeat (first | refine blk_drewN ?_ _ | refine blk_drew ?_ | refine blk_alloc ?_ _)); exact BK106.out)⟩; have n1_ : Aside0 (Below w.heap.size w w4) := ⟨by rw [← hq_]; exact (by repeat (first | (with_reducible first | exact HB.out | apply below_alloc | apply pw_below_drewN | apply below_drew1 | refine below_set ?_ GE106.out) | exact HB.out))⟩; clear BK106 HB hq_; have BK106 := n0_; have HB := n1_; clear n0_ n1_)); have hcz5_0 : w4.cell? ⟨gb106, 0, none⟩ = some (.int .i64 0) := (blk_cell BK106.out 0).trans rfl; have hcz5_1 : w4.cell? ⟨gb106, 1, none⟩ = some (.int .i64 0) := (blk_cell BK106.out 1).trans rfl; have hfz5_0 := blk_frozen BK106.out 0; have hfz5_1 := blk_frozen BK106.out 1))
  refine bodyPost_ret (results_cell_row rfl _ _ gb106 52 #[.int .i64 t107, .int .i64 t108] (0, 0) _ rfl (by (with_reducible repeat (first | refine blk_drewN ?_ _ | refine blk_drew ?_ | refine blk_alloc ?_ _)); refine blk_put (cs := #[.int .i64 t107, .int .i64 0]) ?_ 1 _ rfl; (with_reducible repeat (first | refine blk_drewN ?_ _ | refine blk_drew ?_ | refine blk_alloc ?_ _)); refine blk_put (cs := #[.int .i64 0, .int .i64 0]) ?_ 0 _ rfl; (with_reducible repeat (first | refine blk_drewN ?_ _ | refine blk_drew ?_ | refine blk_alloc ?_ _)); exact BK106.out) Try.underlying52 rfl (by kernel_rfl)) rfl ?_
  exact ⟨by first | rfl | (simp [errW_none, errW_some] <;> rfl) | (simp [*, errW_none, errW_some] <;> rfl), by repeat (first | (with_reducible first | exact HB.out | apply below_alloc | apply pw_below_drewN | apply below_drew1 | refine below_set ?_ GE106.out) | exact HB.out)⟩

/-! ### bound_Plotkin: function 90 -/
def bound_Plotkin.j0 : Nat → Int → Int → Option (Int × Int)
  | 0, _, _ => none
  | k + 1, x0, x1 => if x0 > (wrap64 (2 * x1)) then (some (0, 4)) else (if x0 = (wrap64 (2 * x1)) then (some (wrap64 (4 * x1), 0)) else (if (wrap64 ((wrap64 (2 * x1)) - x0)) = 0 then (none) else (some (wrap64 ((wrap64 (Int.tdiv x1 (wrap64 ((wrap64 (2 * x1)) - x0)))) * 2), 0))))
def bound_Plotkin.f (k : Nat) (a0 : Int) (a1 : Int) : Option (Int × Int) := (bound_fine.f 16 a0 a1).bind fun t109 => (if t109 = true then (if (Int.tmod a1 2) = 1 then (bound_Plotkin.j0 k (wrap64 (a0 + 1)) (wrap64 (a1 + 1))) else (bound_Plotkin.j0 k a0 a1)) else (some (0, 1)))
theorem bound_Plotkin.mono_l : ∀ k, (∀ y0 y1, LeO (bound_Plotkin.j0 k y0 y1) (bound_Plotkin.j0 (k + 1) y0 y1))
  | 0 => fun _ _ r h => by simp [bound_Plotkin.j0] at h
  | k + 1 => by
    have ih0 := bound_Plotkin.mono_l k
    · intro y0 y1
      unfold bound_Plotkin.j0
      repeat' first
      | (with_reducible exact ih0 _ _)
      | (with_reducible exact LeO.refl _)
      | (with_reducible exact LeO.none _)
      | (with_reducible refine LeO.ite ?_ ?_)
      | (with_reducible refine LeO.bind ?_ (fun _ => ?_))
      | exact ih0 _ _
      | exact LeO.none _
      | refine LeO.ite ?_ ?_
      | refine LeO.bind ?_ (fun _ => ?_)
theorem bound_Plotkin.mono : ∀ a0 a1 k, LeO (bound_Plotkin.f k a0 a1) (bound_Plotkin.f (k + 1) a0 a1) := by
  intro a0 a1 k
  have ih0 := bound_Plotkin.mono_l k
  unfold bound_Plotkin.f
  repeat' first
      | (with_reducible exact ih0 _ _)
      | (with_reducible exact LeO.refl _)
      | (with_reducible exact LeO.none _)
      | (with_reducible refine LeO.ite ?_ ?_)
      | (with_reducible refine LeO.bind ?_ (fun _ => ?_))
      | exact ih0 _ _
      | exact LeO.none _
      | refine LeO.ite ?_ ?_
      | refine LeO.bind ?_ (fun _ => ?_)
set_option maxHeartbeats 8000000 in
set_option maxRecDepth 100000 in
theorem bound_Plotkin.calls (k : Nat) (a0 : Int) (a1 : Int) (r1 : Int) (r2 : Int) (w : World) (h : bound_Plotkin.f k a0 a1 = some (r1, r2)) :
    Calls Try.prog 90 #[.int .i64 a0, .int .i64 a1] w fun e w' => e = .returned (.tuple #[.int .i64 r1, .int .i64 r2]) ∧ Drawn0 w w' := by
  have H : ((bound_fine.f 16 a0 a1).bind fun t109 => (if t109 = true then (if (Int.tmod a1 2) = 1 then (bound_Plotkin.j0 k (wrap64 (a0 + 1)) (wrap64 (a1 + 1))) else (bound_Plotkin.j0 k a0 a1)) else (some (0, 1)))) = some (r1, r2) := h
  clear h
  replace H := Option.bind_eq_some_iff.mp H
  obtain ⟨t109, A30, H⟩ := H
  replace H : (if t109 = true then (if (Int.tmod a1 2) = 1 then (bound_Plotkin.j0 k (wrap64 (a0 + 1)) (wrap64 (a1 + 1))) else (bound_Plotkin.j0 k a0 a1)) else (some (0, 1))) = some (r1, r2) := H
  have A3 := Aside0.mk A30
  clear A30
  by_cases c4 : t109 = true
  · subst c4
    have H1 : (if (Int.tmod a1 2) = 1 then (bound_Plotkin.j0 k (wrap64 (a0 + 1)) (wrap64 (a1 + 1))) else (bound_Plotkin.j0 k a0 a1)) = some (r1, r2) := by rw [if_pos rfl] at H; exact H
    clear H
    have H := H1
    clear H1
    have HC5 := Aside0.mk H
    clear H
    go_enter Try.func90, Try.ntmps90
    go_upto_if 12 with (first | ((with_reducible refine gate_callee (f := 111) rfl ?_); refine goesL_ (some 8) rfl rfl Try.func111 (by kernel_rfl) rfl #[.int .i64 16, .int .i64 a0, .int .i64 a1] rfl (by (try simp only [List.map_toArray, List.map_cons, List.map_nil]); first | done | rfl | (simp only [List.length_drop, List.length_take]; rfl)) ?_; (with_reducible refine (bound_fine.calls 16 a0 a1 true _ A3.out).mono ?_); rintro e w' ⟨rfl, ⟨nd, rfl⟩⟩; refine ⟨_, rfl, ?_⟩))
    (try simp only [Act.put, List.setIfInBounds_toArray, List.set_cons_zero, List.set_cons_succ])
    go_cut [0, 1] (fun v0 v1 wc => ∃ (kq : Nat) (x0_4 : Int) (x1_4 : Int), v0 = .int .i64 x0_4 ∧ v1 = .int .i64 x1_4 ∧ Aside0 (bound_Plotkin.j0 kq x0_4 x1_4 = some (r1, r2)) ∧ Aside0 (kq ≤ k) ∧ Drawn0 w wc)
    case first =>
      have H := HC5.out
      clear HC5
      by_cases c6 : (Int.tmod a1 2) = 1
      · rw [if_pos c6] at H
        have c6b0 : ((Int.tmod a1 2) == 1) = true := beq_iff_eq.mpr c6
        have c6b1 : ((Int.tmod a1 2) != 1) = false := bne_eq_false_iff_eq.mpr c6
        clear c6
        (first | rw [c6b0] | (simp only [i64_w, i32_w]; rw [c6b0]) | rw [c6b1] | skip)
        have H' := Aside0.mk H
        clear H
        go_wp2
        go_meet
        case rel => exact ⟨_, (wrap64 (a0 + 1)), (wrap64 (a1 + 1)), (by first | rfl | (simp; done) | (congr 2; (try unfold wrap64); omega) | (simp [*]; done)), (by first | rfl | (simp; done) | (congr 2; (try unfold wrap64); omega) | (simp [*]; done)), H', ⟨by first | omega | exact Nat.le_refl _⟩, by repeat (first | exact Drawn0.refl _ | apply Drawn0.step)⟩
      · rw [if_neg c6] at H
        have c6b0 : ((Int.tmod a1 2) == 1) = false := beq_eq_false_iff_ne.mpr c6
        have c6b1 : ((Int.tmod a1 2) != 1) = true := bne_iff_ne.mpr c6
        (first | rw [c6b0] | (simp only [i64_w, i32_w]; rw [c6b0]) | rw [c6b1] | skip)
        have H' := Aside0.mk H
        clear H
        go_wp2
        go_meet
        case rel => exact ⟨_, (a0), (a1), (by first | rfl | (simp; done) | (congr 2; (try unfold wrap64); omega) | (simp [*]; done)), (by first | rfl | (simp; done) | (congr 2; (try unfold wrap64); omega) | (simp [*]; done)), H', ⟨by first | omega | exact Nat.le_refl _⟩, by repeat (first | exact Drawn0.refl _ | apply Drawn0.step)⟩
    case rest =>
      clear HC5
      try clear c1
      try clear p2
      try clear c4
      try clear c6
      try clear c6b0
      try clear c6b1
      try clear p6
      obtain ⟨kq, x0_4, x1_4, rfl, rfl, HA, HJ4, ⟨mc4, rfl⟩⟩ := hcut
      cases kq with
      | zero => exact absurd HA.out (by simp [bound_Plotkin.j0])
      | succ kj4 =>
        have H := HA.out
        clear HA
        simp only [bound_Plotkin.j0] at H
        by_cases c7 : x0_4 > (wrap64 (2 * x1_4))
        · rw [if_pos c7] at H
          have c7b0 : decide ((wrap64 (2 * x1_4)) < x0_4) = true := decide_eq_true c7
          clear c7
          simp only [Option.some.injEq, Prod.mk.injEq] at H
          obtain ⟨rfl, rfl⟩ := H
          go_wp2
          go_ret2
          exact ⟨by first | rfl | (simp; done) | (simp [*]; done), by repeat (first | exact Drawn0.refl _ | apply Drawn0.step)⟩
        · rw [if_neg c7] at H
          have c7b0 : decide ((wrap64 (2 * x1_4)) < x0_4) = false := decide_eq_false c7
          clear c7
          by_cases c8 : x0_4 = (wrap64 (2 * x1_4))
          · rw [if_pos c8] at H
            have c8b0 : (x0_4 == (wrap64 (2 * x1_4))) = true := beq_iff_eq.mpr c8
            have c8b1 : (x0_4 != (wrap64 (2 * x1_4))) = false := bne_eq_false_iff_eq.mpr c8
            clear c8
            simp only [Option.some.injEq, Prod.mk.injEq] at H
            obtain ⟨rfl, rfl⟩ := H
            go_wp2
            go_ret2
            exact ⟨by first | rfl | (simp; done) | (simp [*]; done), by repeat (first | exact Drawn0.refl _ | apply Drawn0.step)⟩
          · rw [if_neg c8] at H
            have c8b0 : (x0_4 == (wrap64 (2 * x1_4))) = false := beq_eq_false_iff_ne.mpr c8
            have c8b1 : (x0_4 != (wrap64 (2 * x1_4))) = true := bne_iff_ne.mpr c8
            by_cases c9 : (wrap64 ((wrap64 (2 * x1_4)) - x0_4)) = 0
            · rw [if_pos c9] at H
              exact absurd H (by simp)
            · rw [if_neg c9] at H
              have c9b0 : ((wrap64 ((wrap64 (2 * x1_4)) - x0_4)) == 0) = false := beq_eq_false_iff_ne.mpr c9
              have c9b1 : ((wrap64 ((wrap64 (2 * x1_4)) - x0_4)) != 0) = true := bne_iff_ne.mpr c9
              simp only [Option.some.injEq, Prod.mk.injEq] at H
              obtain ⟨rfl, rfl⟩ := H
              go_wp2
              go_ret2
              exact ⟨by first | rfl | (simp; done) | (simp [*]; done), by repeat (first | exact Drawn0.refl _ | apply Drawn0.step)⟩
  · replace c4 := Bool.eq_false_iff.mpr c4
    subst c4
    have H1 : (some (0, 1)) = some (r1, r2) := by rw [if_neg (show ¬ (false = true) by decide)] at H; exact H
    clear H
    have H := H1
    clear H1
    simp only [Option.some.injEq, Prod.mk.injEq] at H
    obtain ⟨rfl, rfl⟩ := H
    go_enter Try.func90, Try.ntmps90
    go_wp2_with (first | ((with_reducible refine gate_callee (f := 111) rfl ?_); refine goesL_ (some 8) rfl rfl Try.func111 (by kernel_rfl) rfl #[.int .i64 16, .int .i64 a0, .int .i64 a1] rfl (by (try simp only [List.map_toArray, List.map_cons, List.map_nil]); first | done | rfl | (simp only [List.length_drop, List.length_take]; rfl)) ?_; (with_reducible refine (bound_fine.calls 16 a0 a1 false _ A3.out).mono ?_); rintro e w' ⟨rfl, ⟨nd, rfl⟩⟩; refine ⟨_, rfl, ?_⟩))
    go_ret2
    exact ⟨by first | rfl | (simp; done) | (simp [*]; done), by repeat (first | exact Drawn0.refl _ | apply Drawn0.step)⟩

/-! ### plexuslaw23_plotkin: function 40 -/
def plexuslaw23_plotkin.f (k : Nat) (a0 : Int) (a1 : Int) : Option (Int × Int) := (bound_Plotkin.f k a0 a1).bind fun bt111 => (some (bt111.1, bt111.2))
theorem plexuslaw23_plotkin.mono : ∀ a0 a1 k, LeO (plexuslaw23_plotkin.f k a0 a1) (plexuslaw23_plotkin.f (k + 1) a0 a1) := by
  intro a0 a1 k
  unfold plexuslaw23_plotkin.f
  repeat' first
      | (with_reducible exact bound_Plotkin.mono _ _ _)
      | (with_reducible exact LeO.refl _)
      | (with_reducible exact LeO.none _)
      | (with_reducible refine LeO.ite ?_ ?_)
      | (with_reducible refine LeO.bind ?_ (fun _ => ?_))
      | exact bound_Plotkin.mono _ _ _
      | exact LeO.none _
      | refine LeO.ite ?_ ?_
      | refine LeO.bind ?_ (fun _ => ?_)
set_option maxHeartbeats 8000000 in
set_option maxRecDepth 100000 in
theorem plexuslaw23_plotkin.calls (k : Nat) (a0 : Int) (a1 : Int) (r1 : Int) (r2 : Int) (w : World) (h : plexuslaw23_plotkin.f k a0 a1 = some (r1, r2)) :
    Calls Try.prog 40 #[.int .i64 a0, .int .i64 a1] w fun e w' => e = .returned (.agg #[.int .i64 r1, .int .i64 r2]) ∧ Below w.heap.size w w' := by
  have hu52 := Try.underlying52
  have HB := Aside0.mk (Below.refl w.heap.size w)
  have H : ((bound_Plotkin.f k a0 a1).bind fun bt111 => (some (bt111.1, bt111.2))) = some (r1, r2) := h
  clear h
  replace H := Option.bind_eq_some_iff.mp H
  obtain ⟨⟨t111, t112⟩, A30, H⟩ := H
  replace H : (some (t111, t112)) = some (r1, r2) := H
  have A3 := Aside0.mk A30
  clear A30
  simp only [Option.some.injEq, Prod.mk.injEq] at H
  obtain ⟨rfl, rfl⟩ := H
  go_enter Try.func40, Try.ntmps40
  go_wp2_with (first | ((with_reducible refine gate_dst (N := 4) rfl ?_); refine box_event ?hg (N := 4) ?hd (cs := #[.int .i64 0, .int .i64 0]) (t := 52) ?hr ?_; (case hd => rfl); (case hg => rfl); (case hr => first | (go_simp; done) | (go_simp; rfl)); intro gb110 hg w4 hbox hb; have n0_ := Aside0.mk (below_step (by repeat (first | (with_reducible first | exact HB.out | apply below_alloc | apply pw_below_drewN | apply below_drew1) | exact HB.out)) hb); have n1_ := Aside0.mk (hbox); have n2_ := Aside0.mk ((by rw [hg]; exact (below_size (by repeat (first | (with_reducible first | exact HB.out | apply below_alloc | apply pw_below_drewN | apply below_drew1) | exact HB.out))) : w.heap.size ≤ gb110)); have n3_ := Aside0.mk ((by rw [hg]; exact (below_size (by repeat (first | (with_reducible first | exact HB.out | apply below_alloc | apply pw_below_drewN | apply below_drew1) | exact HB.out))) : w.heap.size ≤ gb110)); clear HB; have HB := n0_; have BK110 := n1_; have GW110 := n2_; have GE110 := n3_; clear n0_ n1_ n2_ n3_; clear hb hbox hg) | ((with_reducible refine gate_callee (f := 90) rfl ?_); refine goesL_ (some 10) rfl rfl Try.func90 (by kernel_rfl) rfl #[.int .i64 a0, .int .i64 a1] rfl (by (try simp only [List.map_toArray, List.map_cons, List.map_nil]); first | done | rfl | (simp only [List.length_drop, List.length_take]; rfl)) ?_; (with_reducible refine (bound_Plotkin.calls k a0 a1 t111 t112 _ A3.out).mono ?_); rintro e w' ⟨rfl, ⟨nd, rfl⟩⟩; refine ⟨_, rfl, ?_⟩; (try (rw [drewN_self w4]; generalize hq_ : World.drewN w4 _ = w4; have n0_ : Aside0 (w4.heap[gb110]? = some (.cells #[.int .i64 0, .int .i64 0] 52 (0, 0))) := ⟨by rw [← hq_]; exact (by (with_reducible repeat (first | refine blk_drewN ?_ _ | refine blk_drew ?_ | refine blk_alloc ?_ _)); exact BK110.out)⟩; have n1_ : Aside0 (Below w.heap.size w w4) := ⟨by rw [← hq_]; exact (by repeat (first | (with_reducible first | exact HB.out | apply below_alloc | apply pw_below_drewN | apply below_drew1 | refine below_set ?_ GE110.out) | exact HB.out))⟩; clear BK110 HB hq_; have BK110 := n0_; have HB := n1_; clear n0_ n1_)); have hcz5_0 : w4.cell? ⟨gb110, 0, none⟩ = some (.int .i64 0) := (blk_cell BK110.out 0).trans rfl; have hcz5_1 : w4.cell? ⟨gb110, 1, none⟩ = some (.int .i64 0) := (blk_cell BK110.out 1).trans rfl; have hfz5_0 := blk_frozen BK110.out 0; have hfz5_1 := blk_frozen BK110.out 1))
  refine bodyPost_ret (results_cell_row rfl _ _ gb110 52 #[.int .i64 t111, .int .i64 t112] (0, 0) _ rfl (by (with_reducible repeat (first | refine blk_drewN ?_ _ | refine blk_drew ?_ | refine blk_alloc ?_ _)); refine blk_put (cs := #[.int .i64 t111, .int .i64 0]) ?_ 1 _ rfl; (with_reducible repeat (first | refine blk_drewN ?_ _ | refine blk_drew ?_ | refine blk_alloc ?_ _)); refine blk_put (cs := #[.int .i64 0, .int .i64 0]) ?_ 0 _ rfl; (with_reducible repeat (first | refine blk_drewN ?_ _ | refine blk_drew ?_ | refine blk_alloc ?_ _)); exact BK110.out) Try.underlying52 rfl (by kernel_rfl)) rfl ?_
  exact ⟨by first | rfl | (simp [errW_none, errW_some] <;> rfl) | (simp [*, errW_none, errW_some] <;> rfl), by repeat (first | (with_reducible first | exact HB.out | apply below_alloc | apply pw_below_drewN | apply below_drew1 | refine below_set ?_ GE110.out) | exact HB.out)⟩

/-! ### bound_Griesmer: function 92 -/
mutual
def bound_Griesmer.j0 : Nat → Int → Int → Bool → Option (Int × Int)
  | 0, _, _, _ => none
  | k + 1, x0, x1, x20 => if x20 = true then (some (0, 1)) else (bound_Griesmer.l0 k x1 0 x0 0)
def bound_Griesmer.l0 : Nat → Int → Int → Int → Int → Option (Int × Int)
  | 0, _, _, _, _ => none
  | k + 1, x1, x6, x21, x22 => if x22 < x21 then (bound_Griesmer.l0 k (wrap64 (Int.tdiv (wrap64 (x1 + 1)) 2)) (wrap64 (x6 + x1)) x21 (wrap64 (x22 + 1))) else (some (x6, 0))
end
def bound_Griesmer.f (k : Nat) (a0 : Int) (a1 : Int) : Option (Int × Int) := if a0 < 1 then (bound_Griesmer.j0 k a0 a1 true) else (if a0 > 16 then (bound_Griesmer.j0 k a0 a1 true) else (if a1 < 1 then (bound_Griesmer.j0 k a0 a1 true) else (bound_Griesmer.j0 k a0 a1 (decide (a1 > 64)))))
theorem bound_Griesmer.mono_l : ∀ k, (∀ y0 y1 y2, LeO (bound_Griesmer.j0 k y0 y1 y2) (bound_Griesmer.j0 (k + 1) y0 y1 y2)) ∧ (∀ y0 y1 y2 y3, LeO (bound_Griesmer.l0 k y0 y1 y2 y3) (bound_Griesmer.l0 (k + 1) y0 y1 y2 y3))
  | 0 => ⟨fun _ _ _ r h => by simp [bound_Griesmer.j0] at h, fun _ _ _ _ r h => by simp [bound_Griesmer.l0] at h⟩
  | k + 1 => by
    obtain ⟨ih0, ih1⟩ := bound_Griesmer.mono_l k
    refine ⟨?_, ?_⟩
    · intro y0 y1 y2
      unfold bound_Griesmer.j0
      repeat' first
      | (with_reducible exact ih0 _ _ _)
      | (with_reducible exact ih1 _ _ _ _)
      | (with_reducible exact LeO.refl _)
      | (with_reducible exact LeO.none _)
      | (with_reducible refine LeO.ite ?_ ?_)
      | (with_reducible refine LeO.bind ?_ (fun _ => ?_))
      | exact ih0 _ _ _
      | exact ih1 _ _ _ _
      | exact LeO.none _
      | refine LeO.ite ?_ ?_
      | refine LeO.bind ?_ (fun _ => ?_)
    · intro y0 y1 y2 y3
      unfold bound_Griesmer.l0
      repeat' first
      | (with_reducible exact ih0 _ _ _)
      | (with_reducible exact ih1 _ _ _ _)
      | (with_reducible exact LeO.refl _)
      | (with_reducible exact LeO.none _)
      | (with_reducible refine LeO.ite ?_ ?_)
      | (with_reducible refine LeO.bind ?_ (fun _ => ?_))
      | exact ih0 _ _ _
      | exact ih1 _ _ _ _
      | exact LeO.none _
      | refine LeO.ite ?_ ?_
      | refine LeO.bind ?_ (fun _ => ?_)
theorem bound_Griesmer.mono : ∀ a0 a1 k, LeO (bound_Griesmer.f k a0 a1) (bound_Griesmer.f (k + 1) a0 a1) := by
  intro a0 a1 k
  obtain ⟨ih0, ih1⟩ := bound_Griesmer.mono_l k
  unfold bound_Griesmer.f
  repeat' first
      | (with_reducible exact ih0 _ _ _)
      | (with_reducible exact ih1 _ _ _ _)
      | (with_reducible exact LeO.refl _)
      | (with_reducible exact LeO.none _)
      | (with_reducible refine LeO.ite ?_ ?_)
      | (with_reducible refine LeO.bind ?_ (fun _ => ?_))
      | exact ih0 _ _ _
      | exact ih1 _ _ _ _
      | exact LeO.none _
      | refine LeO.ite ?_ ?_
      | refine LeO.bind ?_ (fun _ => ?_)
set_option maxHeartbeats 8000000 in
set_option maxRecDepth 100000 in
theorem bound_Griesmer.calls (k : Nat) (a0 : Int) (a1 : Int) (r1 : Int) (r2 : Int) (w : World) (h : bound_Griesmer.f k a0 a1 = some (r1, r2)) :
    Calls Try.prog 92 #[.int .i64 a0, .int .i64 a1] w fun e w' => e = .returned (.tuple #[.int .i64 r1, .int .i64 r2]) ∧ Drawn0 w w' := by
  have H : (if a0 < 1 then (bound_Griesmer.j0 k a0 a1 true) else (if a0 > 16 then (bound_Griesmer.j0 k a0 a1 true) else (if a1 < 1 then (bound_Griesmer.j0 k a0 a1 true) else (bound_Griesmer.j0 k a0 a1 (decide (a1 > 64)))))) = some (r1, r2) := h
  clear h
  have HC3 := Aside0.mk H
  clear H
  go_enter Try.func92, Try.ntmps92
  go_upto_region 1 with (fail)
  go_cut [20] (fun v20 wc => ∃ (kq : Nat) (x20_2 : Bool), v20 = .bool x20_2 ∧ Aside0 (bound_Griesmer.j0 kq a0 a1 x20_2 = some (r1, r2)) ∧ Aside0 (kq ≤ k) ∧ Drawn0 w wc)
  case first =>
    have H := HC3.out
    clear HC3
    by_cases c4 : a0 < 1
    · rw [if_pos c4] at H
      have c4b0 : decide (a0 < 1) = true := decide_eq_true c4
      clear c4
      (first | rw [c4b0] | (simp only [i64_w, i32_w]; rw [c4b0]) | rw [c4b1] | skip)
      have H' := Aside0.mk H
      clear H
      go_wp2
      go_meet
      case rel => exact ⟨_, (true), (by first | rfl | (simp; done) | (congr 2; (try unfold wrap64); omega) | (simp [*]; done)), H', ⟨by first | omega | exact Nat.le_refl _⟩, by repeat (first | exact Drawn0.refl _ | apply Drawn0.step)⟩
    · rw [if_neg c4] at H
      have c4b0 : decide (a0 < 1) = false := decide_eq_false c4
      clear c4
      (first | rw [c4b0] | (simp only [i64_w, i32_w]; rw [c4b0]) | rw [c4b1] | skip)
      by_cases c5 : a0 > 16
      · rw [if_pos c5] at H
        have c5b0 : decide (16 < a0) = true := decide_eq_true c5
        clear c5
        have H' := Aside0.mk H
        clear H
        go_wp2
        go_meet
        case rel => exact ⟨_, (true), (by first | rfl | (simp; done) | (congr 2; (try unfold wrap64); omega) | (simp [*]; done)), H', ⟨by first | omega | exact Nat.le_refl _⟩, by repeat (first | exact Drawn0.refl _ | apply Drawn0.step)⟩
      · rw [if_neg c5] at H
        have c5b0 : decide (16 < a0) = false := decide_eq_false c5
        clear c5
        by_cases c6 : a1 < 1
        · rw [if_pos c6] at H
          have c6b0 : decide (a1 < 1) = true := decide_eq_true c6
          clear c6
          have H' := Aside0.mk H
          clear H
          go_wp2
          go_meet
          case rel => exact ⟨_, (true), (by first | rfl | (simp; done) | (congr 2; (try unfold wrap64); omega) | (simp [*]; done)), H', ⟨by first | omega | exact Nat.le_refl _⟩, by repeat (first | exact Drawn0.refl _ | apply Drawn0.step)⟩
        · rw [if_neg c6] at H
          have c6b0 : decide (a1 < 1) = false := decide_eq_false c6
          clear c6
          have H' := Aside0.mk H
          clear H
          go_wp2
          go_meet
          case rel => exact ⟨_, (decide (a1 > 64)), (by first | rfl | (simp; done) | (congr 2; (try unfold wrap64); omega) | (simp [*]; done)), H', ⟨by first | omega | exact Nat.le_refl _⟩, by repeat (first | exact Drawn0.refl _ | apply Drawn0.step)⟩
  case rest =>
    clear HC3
    try clear p2
    try clear c4
    try clear c4b0
    try clear c5
    try clear c5b0
    try clear c6
    try clear c6b0
    obtain ⟨kq, x20_2, rfl, HA, HJ2, ⟨mc2, rfl⟩⟩ := hcut
    cases kq with
    | zero => exact absurd HA.out (by simp [bound_Griesmer.j0])
    | succ kj2 =>
      have H := HA.out
      clear HA
      simp only [bound_Griesmer.j0] at H
      by_cases c7 : x20_2 = true
      · subst c7
        have H1 : (some (0, 1)) = some (r1, r2) := by rw [if_pos rfl] at H; exact H
        clear H
        have H := H1
        clear H1
        simp only [Option.some.injEq, Prod.mk.injEq] at H
        obtain ⟨rfl, rfl⟩ := H
        go_wp2
        go_ret2
        exact ⟨by first | rfl | (simp; done) | (simp [*]; done), by repeat (first | exact Drawn0.refl _ | apply Drawn0.step)⟩
      · replace c7 := Bool.eq_false_iff.mpr c7
        subst c7
        have H1 : (bound_Griesmer.l0 kj2 a1 0 a0 0) = some (r1, r2) := by rw [if_neg (show ¬ (false = true) by decide)] at H; exact H
        clear H
        have H := H1
        clear H1
        have H' := Aside0.mk H
        clear H
        go_wp2
        go_loopg [1, 6, 22] kj2 (fun kq v1 v6 v22 w' => ∃ (x1_2 : Int) (x6_2 : Int) (x22_2 : Int), v1 = .int .i64 x1_2 ∧ v6 = .int .i64 x6_2 ∧ v22 = .int .i64 x22_2 ∧ Aside0 (bound_Griesmer.l0 kq x1_2 x6_2 a0 x22_2 = some (r1, r2)) ∧ Aside0 (kq ≤ kj2) ∧ Drawn0 w w')
        case atStart => exact ⟨(a1), (0), (0), (by first | rfl | (simp; done) | (congr 2; (try unfold wrap64); omega) | (simp [*]; done)), (by first | rfl | (simp; done) | (congr 2; (try unfold wrap64); omega) | (simp [*]; done)), (by first | rfl | (simp; done) | (congr 2; (try unfold wrap64); omega) | (simp [*]; done)), H', ⟨Nat.le_refl _⟩, by repeat (first | exact Drawn0.refl _ | apply Drawn0.step)⟩
        case round =>
          clear H'
          try clear c2
          try clear p2
          try clear c4
          try clear c4b0
          try clear c5
          try clear c5b0
          try clear c6
          try clear c6b0
          try clear c7
          try clear p2
          obtain ⟨x1_2, x6_2, x22_2, rfl, rfl, rfl, HA, HK2, ⟨m2, rfl⟩⟩ := hrel
          cases gk with
          | zero => exact absurd HA.out (by simp [bound_Griesmer.l0])
          | succ k2 =>
            have H := HA.out
            clear HA
            simp only [bound_Griesmer.l0] at H
            by_cases c8 : x22_2 < a0
            · rw [if_pos c8] at H
              have c8b0 : decide (x22_2 < a0) = true := decide_eq_true c8
              clear c8
              have H' := Aside0.mk H
              clear H
              go_wp2
              go_roundg k2
              case measure => have := HJ2.out; have := HK2.out; omega
              case rel => exact ⟨(wrap64 (Int.tdiv (wrap64 (x1_2 + 1)) 2)), (wrap64 (x6_2 + x1_2)), (wrap64 (x22_2 + 1)), (by first | rfl | (simp; done) | (congr 2; (try unfold wrap64); omega) | (simp [*]; done)), (by first | rfl | (simp; done) | (congr 2; (try unfold wrap64); omega) | (simp [*]; done)), (by first | rfl | (simp; done) | (congr 2; (try unfold wrap64); omega) | (simp [*]; done)), H', ⟨by have := HJ2.out; have := HK2.out; omega⟩, by repeat (first | exact Drawn0.refl _ | apply Drawn0.step)⟩
            · rw [if_neg c8] at H
              have c8b0 : decide (x22_2 < a0) = false := decide_eq_false c8
              clear c8
              simp only [Option.some.injEq, Prod.mk.injEq] at H
              obtain ⟨rfl, rfl⟩ := H
              go_wp2
              go_ret2
              exact ⟨by first | rfl | (simp; done) | (simp [*]; done), by repeat (first | exact Drawn0.refl _ | apply Drawn0.step)⟩

/-! ### plexuslaw23_griesmer: function 42 -/
def plexuslaw23_griesmer.f (k : Nat) (a0 : Int) (a1 : Int) : Option (Int × Int) := (bound_Griesmer.f k a0 a1).bind fun bt114 => (some (bt114.1, bt114.2))
theorem plexuslaw23_griesmer.mono : ∀ a0 a1 k, LeO (plexuslaw23_griesmer.f k a0 a1) (plexuslaw23_griesmer.f (k + 1) a0 a1) := by
  intro a0 a1 k
  unfold plexuslaw23_griesmer.f
  repeat' first
      | (with_reducible exact bound_Griesmer.mono _ _ _)
      | (with_reducible exact LeO.refl _)
      | (with_reducible exact LeO.none _)
      | (with_reducible refine LeO.ite ?_ ?_)
      | (with_reducible refine LeO.bind ?_ (fun _ => ?_))
      | exact bound_Griesmer.mono _ _ _
      | exact LeO.none _
      | refine LeO.ite ?_ ?_
      | refine LeO.bind ?_ (fun _ => ?_)
set_option maxHeartbeats 8000000 in
set_option maxRecDepth 100000 in
theorem plexuslaw23_griesmer.calls (k : Nat) (a0 : Int) (a1 : Int) (r1 : Int) (r2 : Int) (w : World) (h : plexuslaw23_griesmer.f k a0 a1 = some (r1, r2)) :
    Calls Try.prog 42 #[.int .i64 a0, .int .i64 a1] w fun e w' => e = .returned (.agg #[.int .i64 r1, .int .i64 r2]) ∧ Below w.heap.size w w' := by
  have hu52 := Try.underlying52
  have HB := Aside0.mk (Below.refl w.heap.size w)
  have H : ((bound_Griesmer.f k a0 a1).bind fun bt114 => (some (bt114.1, bt114.2))) = some (r1, r2) := h
  clear h
  replace H := Option.bind_eq_some_iff.mp H
  obtain ⟨⟨t114, t115⟩, A30, H⟩ := H
  replace H : (some (t114, t115)) = some (r1, r2) := H
  have A3 := Aside0.mk A30
  clear A30
  simp only [Option.some.injEq, Prod.mk.injEq] at H
  obtain ⟨rfl, rfl⟩ := H
  go_enter Try.func42, Try.ntmps42
  go_wp2_with (first | ((with_reducible refine gate_dst (N := 4) rfl ?_); refine box_event ?hg (N := 4) ?hd (cs := #[.int .i64 0, .int .i64 0]) (t := 52) ?hr ?_; (case hd => rfl); (case hg => rfl); (case hr => first | (go_simp; done) | (go_simp; rfl)); intro gb113 hg w4 hbox hb; have n0_ := Aside0.mk (below_step (by repeat (first | (with_reducible first | exact HB.out | apply below_alloc | apply pw_below_drewN | apply below_drew1) | exact HB.out)) hb); have n1_ := Aside0.mk (hbox); have n2_ := Aside0.mk ((by rw [hg]; exact (below_size (by repeat (first | (with_reducible first | exact HB.out | apply below_alloc | apply pw_below_drewN | apply below_drew1) | exact HB.out))) : w.heap.size ≤ gb113)); have n3_ := Aside0.mk ((by rw [hg]; exact (below_size (by repeat (first | (with_reducible first | exact HB.out | apply below_alloc | apply pw_below_drewN | apply below_drew1) | exact HB.out))) : w.heap.size ≤ gb113)); clear HB; have HB := n0_; have BK113 := n1_; have GW113 := n2_; have GE113 := n3_; clear n0_ n1_ n2_ n3_; clear hb hbox hg) | ((with_reducible refine gate_callee (f := 92) rfl ?_); refine goesL_ (some 10) rfl rfl Try.func92 (by kernel_rfl) rfl #[.int .i64 a0, .int .i64 a1] rfl (by (try simp only [List.map_toArray, List.map_cons, List.map_nil]); first | done | rfl | (simp only [List.length_drop, List.length_take]; rfl)) ?_; (with_reducible refine (bound_Griesmer.calls k a0 a1 t114 t115 _ A3.out).mono ?_); rintro e w' ⟨rfl, ⟨nd, rfl⟩⟩; refine ⟨_, rfl, ?_⟩; (try (rw [drewN_self w4]; generalize hq_ : World.drewN w4 _ = w4; have n0_ : Aside0 (w4.heap[gb113]? = some (.cells #[.int .i64 0, .int .i64 0] 52 (0, 0))) := ⟨by rw [← hq_]; exact (by (with_reducible repeat (first | refine blk_drewN ?_ _ | refine blk_drew ?_ | refine blk_alloc ?_ _)); exact BK113.out)⟩; have n1_ : Aside0 (Below w.heap.size w w4) := ⟨by rw [← hq_]; exact (by repeat (first | (with_reducible first | exact HB.out | apply below_alloc | apply pw_below_drewN | apply below_drew1 | refine below_set ?_ GE113.out) | exact HB.out))⟩; clear BK113 HB hq_; have BK113 := n0_; have HB := n1_; clear n0_ n1_)); have hcz5_0 : w4.cell? ⟨gb113, 0, none⟩ = some (.int .i64 0) := (blk_cell BK113.out 0).trans rfl; have hcz5_1 : w4.cell? ⟨gb113, 1, none⟩ = some (.int .i64 0) := (blk_cell BK113.out 1).trans rfl; have hfz5_0 := blk_frozen BK113.out 0; have hfz5_1 := blk_frozen BK113.out 1))
  refine bodyPost_ret (results_cell_row rfl _ _ gb113 52 #[.int .i64 t114, .int .i64 t115] (0, 0) _ rfl (by (with_reducible repeat (first | refine blk_drewN ?_ _ | refine blk_drew ?_ | refine blk_alloc ?_ _)); refine blk_put (cs := #[.int .i64 t114, .int .i64 0]) ?_ 1 _ rfl; (with_reducible repeat (first | refine blk_drewN ?_ _ | refine blk_drew ?_ | refine blk_alloc ?_ _)); refine blk_put (cs := #[.int .i64 0, .int .i64 0]) ?_ 0 _ rfl; (with_reducible repeat (first | refine blk_drewN ?_ _ | refine blk_drew ?_ | refine blk_alloc ?_ _)); exact BK113.out) Try.underlying52 rfl (by kernel_rfl)) rfl ?_
  exact ⟨by first | rfl | (simp [errW_none, errW_some] <;> rfl) | (simp [*, errW_none, errW_some] <;> rfl), by repeat (first | (with_reducible first | exact HB.out | apply below_alloc | apply pw_below_drewN | apply below_drew1 | refine below_set ?_ GE113.out) | exact HB.out)⟩



/-! ### bound_Best: function 93 -/
def bound_Best.step (best : Int) (p : Int × Int) : Int := if p.2 = 0 then mn best p.1 else best
def bound_Best.f : Nat → Int → Int → Option (Int × Int)
  | 0, _, _ => none
  | k + 1, n, d => (bound_fine.f 16 n d).bind fun t => if t = true then
      (if 0 ≤ n then (bound_Sphere.f k n d).bind fun p0 => (bound_Singleton.f n d).bind fun p1 => (bound_Plotkin.f k n d).bind fun p2 =>
        (bound_Best.f k (wrap64 (n - 1)) d).bind fun p3 =>
        (if Int.tmod d 2 = 1 then some (0, 4) else bound_Best.f k (wrap64 (n - 1)) (wrap64 (d - 1))).bind fun p4 =>
        some (bound_Best.step (bound_Best.step (bound_Best.step (bound_Best.step (bound_Best.step (shl .i64 1 n) p0) p1) p2) (wrap64 (2 * p3.1), p3.2)) p4, 0)
      else none)
    else some (0, 1)

theorem bound_Best.mono : ∀ a0 a1 k, LeO (bound_Best.f k a0 a1) (bound_Best.f (k + 1) a0 a1) := by
  intro a0 a1 k
  induction k generalizing a0 a1 with
  | zero => intro r h; simp [bound_Best.f] at h
  | succ k ih =>
    rw [bound_Best.f, bound_Best.f]
    repeat' first
      | (with_reducible exact bound_Sphere.mono _ _ _)
      | (with_reducible exact bound_Plotkin.mono _ _ _)
      | (with_reducible exact ih _ _)
      | (with_reducible exact LeO.refl _)
      | (with_reducible exact LeO.none _)
      | (with_reducible refine LeO.ite ?_ ?_)
      | (with_reducible refine LeO.bind ?_ (fun _ => ?_))
def bound_Best.upto (best : Int) (ps : List (Int × Int)) (j : Nat) : Int := (ps.take j).foldl bound_Best.step best
theorem bound_Best.upto_succ (best : Int) (ps : List (Int × Int)) (j : Nat) (p : Int × Int) (h : ps[j]? = some p) : bound_Best.upto best ps (j + 1) = bound_Best.step (bound_Best.upto best ps j) p := by
  unfold bound_Best.upto
  rw [List.take_add_one, h]
  simp
theorem bound_Best.row_cells {W : World} {B : Nat} {c : Array Value} {t : TypeId} (h : W.heap[B]? = some (.cells c t (0, 0))) (i : Nat) : W.cell? ⟨B, i, none⟩ = c[i]? := by
  simp [World.cell?, h]
theorem bound_Best.doubled_calls {n d r1 r2 : Int} {w : World}
    (ih : ∀ w : World, Calls Try.prog 93 #[.int .i64 (wrap64 (n - 1)), .int .i64 d] w fun e w' => e = .returned (.tuple #[.int .i64 r1, .int .i64 r2]) ∧ Below w.heap.size w w') :
    Calls Try.prog 112 #[.int .i64 n, .int .i64 d] w fun e w' => e = .returned (.tuple #[.int .i64 (wrap64 (2 * r1)), .int .i64 r2]) ∧ Below w.heap.size w w' := by
  go_enter Try.func112, Try.ntmps112
  go_wp2_with (first | (go_at_call 93; refine (ih _).mono ?_; rintro e w' ⟨rfl, hb⟩))
  go_ret2
  exact ⟨rfl, hb⟩
theorem bound_Best.punctured_calls {n d r1 r2 : Int} {w : World} (hd : ¬ Int.tmod d 2 = 1)
    (ih : ∀ w : World, Calls Try.prog 93 #[.int .i64 (wrap64 (n - 1)), .int .i64 (wrap64 (d - 1))] w fun e w' => e = .returned (.tuple #[.int .i64 r1, .int .i64 r2]) ∧ Below w.heap.size w w') :
    Calls Try.prog 113 #[.int .i64 n, .int .i64 d] w fun e w' => e = .returned (.tuple #[.int .i64 r1, .int .i64 r2]) ∧ Below w.heap.size w w' := by
  have h1 : (Int.tmod d 2 == 1) = false := beq_eq_false_iff_ne.mpr hd
  clear hd
  go_enter Try.func113, Try.ntmps113
  go_wp2_with (first | (go_at_call 93; refine (ih _).mono ?_; rintro e w' ⟨rfl, hb⟩))
  go_ret2
  exact ⟨rfl, hb⟩
theorem bound_Best.punctured_odd {n d : Int} {w : World} (hd : Int.tmod d 2 = 1) :
    Calls Try.prog 113 #[.int .i64 n, .int .i64 d] w fun e w' => e = .returned (.tuple #[.int .i64 0, .int .i64 4]) ∧ Below w.heap.size w w' := by
  have h1 : (Int.tmod d 2 == 1) = true := beq_iff_eq.mpr hd
  clear hd
  go_enter Try.func113, Try.ntmps113
  go_wp2
  go_ret2
  exact ⟨rfl, Below.refl _ _⟩

set_option maxHeartbeats 4000000 in
set_option maxRecDepth 100000 in
theorem bound_Best.calls (k : Nat) : ∀ (n d : Int) (r1 r2 : Int) (w : World) (h : bound_Best.f k n d = some (r1, r2)),
    Calls Try.prog 93 #[.int .i64 n, .int .i64 d] w fun e w' => e = .returned (.tuple #[.int .i64 r1, .int .i64 r2]) ∧ Below w.heap.size w w' := by
  induction k with
  | zero => intro n d r1 r2 w h; exact absurd h (by simp [bound_Best.f])
  | succ k ih =>
    intro n d r1 r2 w h
    rw [bound_Best.f] at h
    obtain ⟨t, hA, H⟩ := Option.bind_eq_some_iff.mp h
    have A := Aside0.mk hA; clear hA h
    have hu134 := Try.underlying134
    have hu135 := Try.underlying135
    by_cases ht : t = true
    · subst ht
      rw [if_pos rfl] at H
      by_cases h0 : 0 ≤ n
      · rw [if_pos h0] at H
        obtain ⟨⟨b0, e0⟩, h0', H⟩ := Option.bind_eq_some_iff.mp H
        obtain ⟨⟨b1, e1⟩, h1', H⟩ := Option.bind_eq_some_iff.mp H
        obtain ⟨⟨b2, e2⟩, h2', H⟩ := Option.bind_eq_some_iff.mp H
        obtain ⟨⟨b3, e3⟩, h3', H⟩ := Option.bind_eq_some_iff.mp H
        obtain ⟨⟨b4, e4⟩, h4', H⟩ := Option.bind_eq_some_iff.mp H
        have A0 := Aside0.mk h0'; have A1 := Aside0.mk h1'; have A2 := Aside0.mk h2'; have A3 := Aside0.mk h3'; have A4 := Aside0.mk h4'
        clear h0' h1' h2' h3' h4'
        have H' := Aside0.mk H; clear H
        go_enter Try.func93, Try.ntmps93
        go_wp2_with (first | (go_at_call 111; refine (bound_fine.calls 16 n d true _ A.out).mono ?_; rintro e w' ⟨rfl, ⟨nd, rfl⟩⟩))
        have hW0 : ((w.drewN nd).alloc (.cells #[.func (.func 86) #[] #[], .func (.func 89) #[] #[], .func (.func 90) #[] #[], .func (.func 112) #[] #[], .func (.func 113) #[] #[]] 134)).heap[w.heap.size]? = some (.cells #[.func (.func 86) #[] #[], .func (.func 89) #[] #[], .func (.func 90) #[] #[], .func (.func 112) #[] #[], .func (.func 113) #[] #[]] 134 (0, 0)) := blk_new (w.drewN nd) _
        have hB0 : Below w.heap.size w ((w.drewN nd).alloc (.cells #[.func (.func 86) #[] #[], .func (.func 89) #[] #[], .func (.func 90) #[] #[], .func (.func 112) #[] #[], .func (.func 113) #[] #[]] 134)) := below_alloc (pw_below_drewN (Below.refl _ _) nd) _
        go_loopw [6, 24] (fun v6 v24 wr => ∃ j : Int, (j = 0 ∨ j = 1 ∨ j = 2 ∨ j = 3 ∨ j = 4 ∨ j = 5) ∧ v24 = .int .i64 j ∧ v6 = .int .i64 (bound_Best.upto (shl .i64 1 n) [(b0, e0), (b1, e1), (b2, e2), (wrap64 (2 * b3), e3), (b4, e4)] j.toNat) ∧ wr.heap[w.heap.size]? = some (.cells #[.func (.func 86) #[] #[], .func (.func 89) #[] #[], .func (.func 90) #[] #[], .func (.func 112) #[] #[], .func (.func 113) #[] #[]] 134 (0, 0)) ∧ Below w.heap.size w wr) (fun _ v24 _ => 5 - (intOf v24).toNat)
        case atStart => exact ⟨0, .inl rfl, rfl, by simp [bound_Best.upto, shl, ← i64_w, IntKind.bits], hW0, hB0⟩
        case round =>
          clear hW0 hB0
          obtain ⟨j, hj, rfl, rfl, hrow, hB⟩ := hrel
          have hc := fun i => bound_Best.row_cells hrow i
          have hs := hB.size
          rcases hj with rfl | rfl | rfl | rfl | rfl | rfl
          · have c0 := hc 0
            simp at c0
            by_cases he : e0 = 0
            · have he1 : (e0 == 0) = true := beq_iff_eq.mpr he
              have he2 := Aside0.mk he
              clear he
              go_wp2_with (first | (go_at_call 86; refine (bound_Sphere.calls k n d b0 e0 _ A0.out).mono ?_; rintro e w' ⟨rfl, ⟨nd1, rfl⟩⟩))
              go_roundw
              case rel => exact ⟨1, by simp, rfl, by (rw [show ((1 : Int).toNat) = 1 from rfl, bound_Best.upto_succ _ _ 0 (b0, e0) rfl]; unfold bound_Best.step mn; rw [if_pos he2.out]) , blk_below hrow ((pw_below_drewN (below_alloc (Below.refl _ _) _) nd1)), below_step hB ((pw_below_drewN (below_alloc (Below.refl _ _) _) nd1))⟩
              case measure => simp [intOf]
            · have he1 : (e0 == 0) = false := beq_eq_false_iff_ne.mpr he
              have he2 := Aside0.mk he
              clear he
              go_wp2_with (first | (go_at_call 86; refine (bound_Sphere.calls k n d b0 e0 _ A0.out).mono ?_; rintro e w' ⟨rfl, ⟨nd1, rfl⟩⟩))
              go_roundw
              case rel => exact ⟨1, by simp, rfl, by (rw [show ((1 : Int).toNat) = 1 from rfl, bound_Best.upto_succ _ _ 0 (b0, e0) rfl]; unfold bound_Best.step; rw [if_neg he2.out]) , blk_below hrow ((pw_below_drewN (below_alloc (Below.refl _ _) _) nd1)), below_step hB ((pw_below_drewN (below_alloc (Below.refl _ _) _) nd1))⟩
              case measure => simp [intOf]
          · have c0 := hc 1
            simp at c0
            by_cases he : e1 = 0
            · have he1 : (e1 == 0) = true := beq_iff_eq.mpr he
              have he2 := Aside0.mk he
              clear he
              go_wp2_with (first | (go_at_call 89; refine (bound_Singleton.calls n d b1 e1 _ A1.out).mono ?_; rintro e w' ⟨rfl, ⟨nd1, rfl⟩⟩))
              go_roundw
              case rel => exact ⟨2, by simp, rfl, by (rw [show ((2 : Int).toNat) = 2 from rfl, bound_Best.upto_succ _ _ 1 (b1, e1) rfl]; unfold bound_Best.step mn; rw [if_pos he2.out]) , blk_below hrow ((pw_below_drewN (below_alloc (Below.refl _ _) _) nd1)), below_step hB ((pw_below_drewN (below_alloc (Below.refl _ _) _) nd1))⟩
              case measure => simp [intOf]
            · have he1 : (e1 == 0) = false := beq_eq_false_iff_ne.mpr he
              have he2 := Aside0.mk he
              clear he
              go_wp2_with (first | (go_at_call 89; refine (bound_Singleton.calls n d b1 e1 _ A1.out).mono ?_; rintro e w' ⟨rfl, ⟨nd1, rfl⟩⟩))
              go_roundw
              case rel => exact ⟨2, by simp, rfl, by (rw [show ((2 : Int).toNat) = 2 from rfl, bound_Best.upto_succ _ _ 1 (b1, e1) rfl]; unfold bound_Best.step; rw [if_neg he2.out]) , blk_below hrow ((pw_below_drewN (below_alloc (Below.refl _ _) _) nd1)), below_step hB ((pw_below_drewN (below_alloc (Below.refl _ _) _) nd1))⟩
              case measure => simp [intOf]
          · have c0 := hc 2
            simp at c0
            by_cases he : e2 = 0
            · have he1 : (e2 == 0) = true := beq_iff_eq.mpr he
              have he2 := Aside0.mk he
              clear he
              go_wp2_with (first | (go_at_call 90; refine (bound_Plotkin.calls k n d b2 e2 _ A2.out).mono ?_; rintro e w' ⟨rfl, ⟨nd1, rfl⟩⟩))
              go_roundw
              case rel => exact ⟨3, by simp, rfl, by (rw [show ((3 : Int).toNat) = 3 from rfl, bound_Best.upto_succ _ _ 2 (b2, e2) rfl]; unfold bound_Best.step mn; rw [if_pos he2.out]) , blk_below hrow ((pw_below_drewN (below_alloc (Below.refl _ _) _) nd1)), below_step hB ((pw_below_drewN (below_alloc (Below.refl _ _) _) nd1))⟩
              case measure => simp [intOf]
            · have he1 : (e2 == 0) = false := beq_eq_false_iff_ne.mpr he
              have he2 := Aside0.mk he
              clear he
              go_wp2_with (first | (go_at_call 90; refine (bound_Plotkin.calls k n d b2 e2 _ A2.out).mono ?_; rintro e w' ⟨rfl, ⟨nd1, rfl⟩⟩))
              go_roundw
              case rel => exact ⟨3, by simp, rfl, by (rw [show ((3 : Int).toNat) = 3 from rfl, bound_Best.upto_succ _ _ 2 (b2, e2) rfl]; unfold bound_Best.step; rw [if_neg he2.out]) , blk_below hrow ((pw_below_drewN (below_alloc (Below.refl _ _) _) nd1)), below_step hB ((pw_below_drewN (below_alloc (Below.refl _ _) _) nd1))⟩
              case measure => simp [intOf]
          · have c0 := hc 3
            simp at c0
            by_cases he : e3 = 0
            · have he1 : (e3 == 0) = true := beq_iff_eq.mpr he
              have he2 := Aside0.mk he
              clear he
              go_wp2_with (first | (go_at_call 112; refine (bound_Best.doubled_calls (fun w => ih _ _ b3 e3 w A3.out)).mono ?_; rintro e w' ⟨rfl, hb1⟩))
              go_roundw
              case rel => exact ⟨4, by simp, rfl, by (rw [show ((4 : Int).toNat) = 4 from rfl, bound_Best.upto_succ _ _ 3 (wrap64 (2 * b3), e3) rfl]; unfold bound_Best.step mn; rw [if_pos he2.out]) , blk_below hrow (below_step (below_alloc (Below.refl _ _) _) hb1), below_step hB (below_step (below_alloc (Below.refl _ _) _) hb1)⟩
              case measure => simp [intOf]
            · have he1 : (e3 == 0) = false := beq_eq_false_iff_ne.mpr he
              have he2 := Aside0.mk he
              clear he
              go_wp2_with (first | (go_at_call 112; refine (bound_Best.doubled_calls (fun w => ih _ _ b3 e3 w A3.out)).mono ?_; rintro e w' ⟨rfl, hb1⟩))
              go_roundw
              case rel => exact ⟨4, by simp, rfl, by (rw [show ((4 : Int).toNat) = 4 from rfl, bound_Best.upto_succ _ _ 3 (wrap64 (2 * b3), e3) rfl]; unfold bound_Best.step; rw [if_neg he2.out]) , blk_below hrow (below_step (below_alloc (Below.refl _ _) _) hb1), below_step hB (below_step (below_alloc (Below.refl _ _) _) hb1)⟩
              case measure => simp [intOf]
          · have c0 := hc 4
            simp at c0
            have hp : ∀ W, Calls Try.prog 113 #[.int .i64 n, .int .i64 d] W fun e w' => e = .returned (.tuple #[.int .i64 b4, .int .i64 e4]) ∧ Below W.heap.size W w' := by
              intro W
              have h4 := A4.out
              by_cases hd : Int.tmod d 2 = 1
              · rw [if_pos hd] at h4
                simp only [Option.some.injEq, Prod.mk.injEq] at h4
                obtain ⟨rfl, rfl⟩ := h4
                exact bound_Best.punctured_odd hd
              · rw [if_neg hd] at h4
                exact bound_Best.punctured_calls hd (fun w => ih _ _ b4 e4 w h4)
            by_cases he : e4 = 0
            · have he1 : (e4 == 0) = true := beq_iff_eq.mpr he
              have he2 := Aside0.mk he
              clear he
              go_wp2_with (first | (go_at_call 113; refine (hp _).mono ?_; rintro e w' ⟨rfl, hb1⟩))
              go_roundw
              case rel => exact ⟨5, by simp, rfl, by (rw [show ((5 : Int).toNat) = 5 from rfl, bound_Best.upto_succ _ _ 4 (b4, e4) rfl]; unfold bound_Best.step mn; rw [if_pos he2.out]) , blk_below hrow (below_step (below_alloc (Below.refl _ _) _) hb1), below_step hB (below_step (below_alloc (Below.refl _ _) _) hb1)⟩
              case measure => simp [intOf]
            · have he1 : (e4 == 0) = false := beq_eq_false_iff_ne.mpr he
              have he2 := Aside0.mk he
              clear he
              go_wp2_with (first | (go_at_call 113; refine (hp _).mono ?_; rintro e w' ⟨rfl, hb1⟩))
              go_roundw
              case rel => exact ⟨5, by simp, rfl, by (rw [show ((5 : Int).toNat) = 5 from rfl, bound_Best.upto_succ _ _ 4 (b4, e4) rfl]; unfold bound_Best.step; rw [if_neg he2.out]) , blk_below hrow (below_step (below_alloc (Below.refl _ _) _) hb1), below_step hB (below_step (below_alloc (Below.refl _ _) _) hb1)⟩
              case measure => simp [intOf]
          · have H := H'.out
            simp only [Option.some.injEq, Prod.mk.injEq] at H
            obtain ⟨rfl, rfl⟩ := H
            go_wp2
            go_ret2
            exact ⟨rfl, hB⟩
      · rw [if_neg h0] at H
        exact absurd H (by simp)
    · replace ht := Bool.eq_false_iff.mpr ht
      subst ht
      rw [if_neg (by decide)] at H
      simp only [Option.some.injEq, Prod.mk.injEq] at H
      obtain ⟨rfl, rfl⟩ := H
      go_enter Try.func93, Try.ntmps93
      go_wp2_with (first | (go_at_call 111; refine (bound_fine.calls 16 n d false _ A.out).mono ?_; rintro e w' ⟨rfl, ⟨nd, rfl⟩⟩))
      go_ret2
      exact ⟨rfl, pw_below_drewN (Below.refl _ _) _⟩

end Go.Proofs.Ytcanekmlabehgaa.P
