-- PRINTED by print.py (a twelfth state) out of the translation. Not trusted: Lean checks it.
import Derived.Test.YtcanekmlabehgaaP03x0
import Derived.Test.YtcanekmlabehgaaP03x1
import Derived.Test.YtcanekmlabehgaaP03x2
import Derived.Test.YtcanekmlabehgaaP03x3
import Derived.Test.YtcanekmlabehgaaP03x4
import Derived.Test.YtcanekmlabehgaaP03x5
import Derived.Test.YtcanekmlabehgaaP03x7
namespace Go.Proofs.Ytcanekmlabehgaa.P03
open Go.RowKit Go.Proofs.YtcanekmlabehgaaW.PrintWords Go.Proofs.YtcanekmlabehgaaW.PrintLast Go.Proofs.YtcanekmlabehgaaW.PrintMore
attribute [local go_sem] max2_int min2_int max_two min_two max_three min_three max_four min_four   -- for this text's walks alone
set_option linter.unusedVariables false
set_option linter.unusedSimpArgs false

/-! ### plexusref03_Sides: function 63 -/
def plexusref03_Sides.f : Nat → Int → Int → Option (List Bool)
  | 0, _, _ => none
  | k + 1, a0, a1 => if a0 ≤ 1 then (some (([] : List Bool))) else ((plexusref03_Half.f k a0).bind fun t272 => (if a1 < t272 then ((plexusref03_Sides.f k t272 a1).bind fun t273 => (if t273.length < 140737488355328 then (some (t273 ++ [true])) else (none))) else ((plexusref03_Sides.f k (wrap64 (a0 - t272)) (wrap64 (a1 - t272))).bind fun t279 => (if t279.length < 140737488355328 then (some (t279 ++ [false])) else (none)))))
theorem plexusref03_Sides.mono_l : ∀ k, (∀ y0 y1, LeO (plexusref03_Sides.f k y0 y1) (plexusref03_Sides.f (k + 1) y0 y1))
  | 0 => fun _ _ r h => by simp [plexusref03_Sides.f] at h
  | k + 1 => by
    have ih0 := plexusref03_Sides.mono_l k
    · intro y0 y1
      unfold plexusref03_Sides.f
      repeat' first
      | (with_reducible exact ih0 _ _)
      | (with_reducible exact plexusref03_Half.mono _ _)
      | (with_reducible exact LeO.refl _)
      | (with_reducible exact LeO.none _)
      | (with_reducible refine LeO.ite ?_ ?_)
      | (with_reducible refine LeO.bind ?_ (fun _ => ?_))
      | exact ih0 _ _
      | exact plexusref03_Half.mono _ _
      | exact LeO.none _
      | refine LeO.ite ?_ ?_
      | refine LeO.bind ?_ (fun _ => ?_)
theorem plexusref03_Sides.mono : ∀ a0 a1 k, LeO (plexusref03_Sides.f k a0 a1) (plexusref03_Sides.f (k + 1) a0 a1) := by
  intro a0 a1 k
  have ih0 := plexusref03_Sides.mono_l k
  exact ih0 a0 a1
set_option maxHeartbeats 8000000 in
set_option maxRecDepth 100000 in
theorem plexusref03_Sides.calls (k : Nat) : ∀ (a0 : Int) (a1 : Int) (r : List Bool) (w : World) (h : plexusref03_Sides.f k a0 a1 = some r),
    Calls Try.prog 63 #[.int .i64 a0, .int .i64 a1] w fun e w' => ∃ v0_ : Value, e = .returned (v0_) ∧ Kd.R Kd.bool 4 w' w.heap.size (fun _ => True) v0_ r ∧ Below w.heap.size w w' := by
  induction k using Nat.strongRecOn with
  | _ k ih =>
  intro a0 a1 r w h
  cases k with
  | zero => exact absurd h (by simp [plexusref03_Sides.f])
  | succ k =>
  simp only [plexusref03_Sides.f] at h
  have HB := Aside0.mk (Below.refl w.heap.size w)
  have H : (if a0 ≤ 1 then (some (([] : List Bool))) else ((plexusref03_Half.f k a0).bind fun t272 => (if a1 < t272 then ((plexusref03_Sides.f k t272 a1).bind fun t273 => (if t273.length < 140737488355328 then (some (t273 ++ [true])) else (none))) else ((plexusref03_Sides.f k (wrap64 (a0 - t272)) (wrap64 (a1 - t272))).bind fun t279 => (if t279.length < 140737488355328 then (some (t279 ++ [false])) else (none)))))) = some r := h
  clear h
  by_cases c3 : a0 ≤ 1
  · rw [if_pos c3] at H
    have c3b0 : decide (a0 ≤ 1) = true := decide_eq_true c3
    clear c3
    obtain ⟨y269, hy269⟩ : ∃ y_ : List Bool, y_ = (([] : List Bool)) := ⟨_, rfl⟩
    replace H : (some y269) = some r := by first | (rw [hy269]; with_reducible exact H) | (have H2_ := (Option.bind_some _ _).symm.trans H; rw [hy269]; with_reducible exact H2_) | (have H2_ := (Option.bind_some _ _).symm.trans H; with_reducible exact H2_) | with_reducible exact H | (rw [hy269]; exact H) | exact H
    have Ny269 := Aside0.mk hy269
    clear hy269
    obtain rfl := Option.some.inj H
    go_enter Try.func63, Try.ntmps63
    go_wp2_with (first | ((with_reducible refine gate_dst (N := 8) rfl ?_); refine Kd.R_lit Kd.bool _ 4 ?hg (N := 8) ?hd (xs := ([] : List Bool)) (inner := []) (ok := fun _ => True) (okp := fun _ => True) ?hr ?hp (fun _ hk => hk) trivial (Below.refl _ _) (Nat.le_refl _) (by simp) ?_; (case hd => rfl); (case hg => rfl); (case hr => first | (go_simp; done) | (go_simp; rfl)); (case hp => exact (Reps.none _ _)); intro v270 w4 ho5 hb hg_ hnew_; clear hg_ hnew_; (first | rw [← Ny269.out] at ho5 | (simp only [Int.reduceToNat] at ho5; rw [← Ny269.out] at ho5)); have n0_ := Aside0.mk (Kd.R_lower ho5 (below_size (by repeat (first | (with_reducible first | exact HB.out | apply below_alloc | apply pw_below_drewN | apply below_drew1) | exact HB.out)))); have n1_ := Aside0.mk (below_step (by repeat (first | (with_reducible first | exact HB.out | apply below_alloc | apply pw_below_drewN | apply below_drew1) | exact HB.out)) hb); clear HB; have HO271 := n0_; have HB := n1_; clear n0_ n1_; clear hb ho5))
    go_ret
    exact ⟨_, by first | rfl | (simp [errW_none, errW_some] <;> rfl) | (simp [*, errW_none, errW_some] <;> rfl), by (with_reducible repeat (first | apply Kd.R_alloc | apply Kd.R_drewN | apply Kd.R_drew)); exact HO271.out, by repeat (first | (with_reducible first | exact HB.out | apply below_alloc | apply pw_below_drewN | apply below_drew1) | exact HB.out)⟩
  · rw [if_neg c3] at H
    have c3b0 : decide (a0 ≤ 1) = false := decide_eq_false c3
    clear c3
    replace H := Option.bind_eq_some_iff.mp H
    obtain ⟨t272, A60, H⟩ := H
    replace H : (if a1 < t272 then ((plexusref03_Sides.f k t272 a1).bind fun t273 => (if t273.length < 140737488355328 then (some (t273 ++ [true])) else (none))) else ((plexusref03_Sides.f k (wrap64 (a0 - t272)) (wrap64 (a1 - t272))).bind fun t279 => (if t279.length < 140737488355328 then (some (t279 ++ [false])) else (none)))) = some r := H
    have A6 := Aside0.mk A60
    clear A60
    by_cases c7 : a1 < t272
    · rw [if_pos c7] at H
      have c7b0 : decide (a1 < t272) = true := decide_eq_true c7
      clear c7
      replace H := Option.bind_eq_some_iff.mp H
      obtain ⟨t273, A80, H⟩ := H
      replace H : (if t273.length < 140737488355328 then (some (t273 ++ [true])) else (none)) = some r := H
      have A8 := Aside0.mk A80
      clear A80
      by_cases c9 : t273.length < 140737488355328
      · rw [if_pos c9] at H
        have LMc9 := Aside0.mk c9
        clear c9
        obtain ⟨y276, hy276⟩ : ∃ y_ : List Bool, y_ = (t273 ++ [true]) := ⟨_, rfl⟩
        replace H : (some y276) = some r := by first | (rw [hy276]; with_reducible exact H) | (have H2_ := (Option.bind_some _ _).symm.trans H; rw [hy276]; with_reducible exact H2_) | (have H2_ := (Option.bind_some _ _).symm.trans H; with_reducible exact H2_) | with_reducible exact H | (rw [hy276]; exact H) | exact H
        have Ny276 := Aside0.mk hy276
        clear hy276
        obtain rfl := Option.some.inj H
        go_enter Try.func63, Try.ntmps63
        go_wp2_with (first | ((with_reducible refine gate_callee (f := 101) rfl ?_); refine goesL_ (some 10) rfl rfl Try.func101 (by kernel_rfl) rfl #[.int .i64 a0] rfl (by (try simp only [List.map_toArray, List.map_cons, List.map_nil]); first | done | rfl | (simp only [List.length_drop, List.length_take]; rfl)) ?_; (with_reducible refine (plexusref03_Half.calls k a0 t272 _ A6.out).mono ?_); rintro e w' ⟨rfl, ⟨nd, rfl⟩⟩; refine ⟨_, rfl, ?_⟩) | ((with_reducible refine gate_callee (f := 63) rfl ?_); refine goesL_ (some 16) rfl rfl Try.func63 (by kernel_rfl) rfl #[.int .i64 t272, .int .i64 a1] rfl (by (try simp only [List.map_toArray, List.map_cons, List.map_nil]); first | done | rfl | (simp only [List.length_drop, List.length_take]; rfl)) ?_; (with_reducible refine (ih k (by omega) t272 a1 t273 _ A8.out).mono ?_); rintro e w10 ⟨v274, rfl, ho0, hb⟩; refine ⟨_, rfl, ?_⟩; have n0_ := Aside0.mk (Kd.R_lower ho0 (below_size (by repeat (first | (with_reducible first | exact HB.out | apply below_alloc | apply pw_below_drewN | apply below_drew1) | exact HB.out)))); have n1_ := Aside0.mk (below_step (by repeat (first | (with_reducible first | exact HB.out | apply below_alloc | apply pw_below_drewN | apply below_drew1) | exact HB.out)) hb); clear HB; have HO275 := n0_; have HB := n1_; clear n0_ n1_; (try clear hb); (try clear hb2); (try clear hk); (try clear hi); (try clear ho0)) | ((with_reducible refine gate_builtin (b := .append) (xs := #[.tmp 16, .tmp 17]) rfl ?_); at_builtin; refine Kd.R_append Kd.bool (w0 := w) w.heap.size rfl (.tmp 16) (.tmp 17) 67 4 (.bool false) 1 rfl Try.underlying67 info4 rfl (by decide) (by omega) v274 t273 true [.bool true] (fun _ => True) (fun _ => False) rfl rfl ?aP (fun _ hk => hk.elim) ?aF ?aO ?aB ?aS ?aL ?_; (case aP => exact rfl); (case aB => exact (by repeat (first | (with_reducible first | exact HB.out | apply below_alloc | apply pw_below_drewN | apply below_drew1) | exact HB.out))); (case aF => exact (fun _ _ => trivial)); (case aO => exact (by (with_reducible repeat (first | apply Kd.R_alloc | apply Kd.R_drewN | apply Kd.R_drew)); exact HO275.out)); (case aS => exact (below_size (by repeat (first | (with_reducible first | exact HB.out | apply below_alloc | apply pw_below_drewN | apply below_drew1) | exact HB.out)))); (case aL => have := LMc9.out; omega); intro v277 w11 ho hb hg hat; rw [← Ny276.out] at ho; have n0_ := Aside0.mk (hb); have n1_ := Aside0.mk (ho); clear HB; clear HO275; have HB := n0_; have HO278 := n1_; clear n0_ n1_; clear ho hb hg hat))
        go_ret
        exact ⟨_, by first | rfl | (simp [errW_none, errW_some] <;> rfl) | (simp [*, errW_none, errW_some] <;> rfl), by (with_reducible repeat (first | apply Kd.R_alloc | apply Kd.R_drewN | apply Kd.R_drew)); exact HO278.out, by repeat (first | (with_reducible first | exact HB.out | apply below_alloc | apply pw_below_drewN | apply below_drew1) | exact HB.out)⟩
      · rw [if_neg c9] at H
        exact absurd H (by simp)
    · rw [if_neg c7] at H
      have c7b0 : decide (a1 < t272) = false := decide_eq_false c7
      clear c7
      replace H := Option.bind_eq_some_iff.mp H
      obtain ⟨t279, A120, H⟩ := H
      replace H : (if t279.length < 140737488355328 then (some (t279 ++ [false])) else (none)) = some r := H
      have A12 := Aside0.mk A120
      clear A120
      by_cases c13 : t279.length < 140737488355328
      · rw [if_pos c13] at H
        have LMc13 := Aside0.mk c13
        clear c13
        obtain ⟨y282, hy282⟩ : ∃ y_ : List Bool, y_ = (t279 ++ [false]) := ⟨_, rfl⟩
        replace H : (some y282) = some r := by first | (rw [hy282]; with_reducible exact H) | (have H2_ := (Option.bind_some _ _).symm.trans H; rw [hy282]; with_reducible exact H2_) | (have H2_ := (Option.bind_some _ _).symm.trans H; with_reducible exact H2_) | with_reducible exact H | (rw [hy282]; exact H) | exact H
        have Ny282 := Aside0.mk hy282
        clear hy282
        obtain rfl := Option.some.inj H
        go_enter Try.func63, Try.ntmps63
        go_wp2_with (first | ((with_reducible refine gate_callee (f := 101) rfl ?_); refine goesL_ (some 10) rfl rfl Try.func101 (by kernel_rfl) rfl #[.int .i64 a0] rfl (by (try simp only [List.map_toArray, List.map_cons, List.map_nil]); first | done | rfl | (simp only [List.length_drop, List.length_take]; rfl)) ?_; (with_reducible refine (plexusref03_Half.calls k a0 t272 _ A6.out).mono ?_); rintro e w' ⟨rfl, ⟨nd, rfl⟩⟩; refine ⟨_, rfl, ?_⟩) | ((with_reducible refine gate_callee (f := 63) rfl ?_); refine goesL_ (some 25) rfl rfl Try.func63 (by kernel_rfl) rfl #[.int .i64 (wrap64 (a0 - t272)), .int .i64 (wrap64 (a1 - t272))] rfl (by (try simp only [List.map_toArray, List.map_cons, List.map_nil]); first | done | rfl | (simp only [List.length_drop, List.length_take]; rfl)) ?_; (with_reducible refine (ih k (by omega) (wrap64 (a0 - t272)) (wrap64 (a1 - t272)) t279 _ A12.out).mono ?_); rintro e w14 ⟨v280, rfl, ho0, hb⟩; refine ⟨_, rfl, ?_⟩; have n0_ := Aside0.mk (Kd.R_lower ho0 (below_size (by repeat (first | (with_reducible first | exact HB.out | apply below_alloc | apply pw_below_drewN | apply below_drew1) | exact HB.out)))); have n1_ := Aside0.mk (below_step (by repeat (first | (with_reducible first | exact HB.out | apply below_alloc | apply pw_below_drewN | apply below_drew1) | exact HB.out)) hb); clear HB; have HO281 := n0_; have HB := n1_; clear n0_ n1_; (try clear hb); (try clear hb2); (try clear hk); (try clear hi); (try clear ho0)) | ((with_reducible refine gate_builtin (b := .append) (xs := #[.tmp 25, .tmp 26]) rfl ?_); at_builtin; refine Kd.R_append Kd.bool (w0 := w) w.heap.size rfl (.tmp 25) (.tmp 26) 67 4 (.bool false) 1 rfl Try.underlying67 info4 rfl (by decide) (by omega) v280 t279 false [.bool false] (fun _ => True) (fun _ => False) rfl rfl ?aP (fun _ hk => hk.elim) ?aF ?aO ?aB ?aS ?aL ?_; (case aP => exact rfl); (case aB => exact (by repeat (first | (with_reducible first | exact HB.out | apply below_alloc | apply pw_below_drewN | apply below_drew1) | exact HB.out))); (case aF => exact (fun _ _ => trivial)); (case aO => exact (by (with_reducible repeat (first | apply Kd.R_alloc | apply Kd.R_drewN | apply Kd.R_drew)); exact HO281.out)); (case aS => exact (below_size (by repeat (first | (with_reducible first | exact HB.out | apply below_alloc | apply pw_below_drewN | apply below_drew1) | exact HB.out)))); (case aL => have := LMc13.out; omega); intro v283 w15 ho hb hg hat; rw [← Ny282.out] at ho; have n0_ := Aside0.mk (hb); have n1_ := Aside0.mk (ho); clear HB; clear HO281; have HB := n0_; have HO284 := n1_; clear n0_ n1_; clear ho hb hg hat))
        go_ret
        exact ⟨_, by first | rfl | (simp [errW_none, errW_some] <;> rfl) | (simp [*, errW_none, errW_some] <;> rfl), by (with_reducible repeat (first | apply Kd.R_alloc | apply Kd.R_drewN | apply Kd.R_drew)); exact HO284.out, by repeat (first | (with_reducible first | exact HB.out | apply below_alloc | apply pw_below_drewN | apply below_drew1) | exact HB.out)⟩
      · rw [if_neg c13] at H
        exact absurd H (by simp)

/-! ### plexusref03_Join: function 72 -/
def plexusref03_Join.f (a0 : Int) (a1 : Int) : Option (Int) := (plexusref03_Step.f 1785686382 a0).bind fun t285 => ((plexusref03_Step.f t285 a1).bind fun t286 => (some t286))
set_option maxHeartbeats 8000000 in
set_option maxRecDepth 100000 in
theorem plexusref03_Join.calls (a0 : Int) (a1 : Int) (r : Int) (w : World) (h : plexusref03_Join.f a0 a1 = some r) :
    Calls Try.prog 72 #[.int .u64 a0, .int .u64 a1] w fun e w' => e = .returned (.int .u64 r) ∧ Drawn0 w w' := by
  have H : ((plexusref03_Step.f 1785686382 a0).bind fun t285 => ((plexusref03_Step.f t285 a1).bind fun t286 => (some t286))) = some r := h
  clear h
  replace H := Option.bind_eq_some_iff.mp H
  obtain ⟨t285, A30, H⟩ := H
  replace H : ((plexusref03_Step.f t285 a1).bind fun t286 => (some t286)) = some r := H
  have A3 := Aside0.mk A30
  clear A30
  replace H := Option.bind_eq_some_iff.mp H
  obtain ⟨t286, A40, H⟩ := H
  replace H : (some t286) = some r := H
  have A4 := Aside0.mk A40
  clear A40
  obtain rfl := Option.some.inj H
  go_enter Try.func72, Try.ntmps72
  go_wp2_with (first | ((with_reducible refine gate_callee (f := 65) rfl ?_); refine goesL_ (some 6) rfl rfl Try.func65 (by kernel_rfl) rfl #[.int .u64 1785686382, .int .u64 a0] rfl (by (try simp only [List.map_toArray, List.map_cons, List.map_nil]); first | done | rfl | (simp only [List.length_drop, List.length_take]; rfl)) ?_; (with_reducible refine (plexusref03_Step.calls 1785686382 a0 t285 _ A3.out).mono ?_); rintro e w' ⟨rfl, ⟨nd, rfl⟩⟩; refine ⟨_, rfl, ?_⟩) | ((with_reducible refine gate_callee (f := 65) rfl ?_); refine goesL_ (some 8) rfl rfl Try.func65 (by kernel_rfl) rfl #[.int .u64 t285, .int .u64 a1] rfl (by (try simp only [List.map_toArray, List.map_cons, List.map_nil]); first | done | rfl | (simp only [List.length_drop, List.length_take]; rfl)) ?_; (with_reducible refine (plexusref03_Step.calls t285 a1 t286 _ A4.out).mono ?_); rintro e w' ⟨rfl, ⟨nd, rfl⟩⟩; refine ⟨_, rfl, ?_⟩))
  go_ret
  exact ⟨by first | rfl | (simp; done) | (simp [*]; done), by repeat (first | exact Drawn0.refl _ | apply Drawn0.step)⟩

/-! ### plexusref03_Up: function 64 -/
def plexusref03_Up.f (a0 : Int) (a1 : Int) (a2 : Bool) : Option (Int) := if a2 = true then ((plexusref03_Join.f a0 a1).bind fun t287 => (some t287)) else ((plexusref03_Join.f a1 a0).bind fun t288 => (some t288))
set_option maxHeartbeats 8000000 in
set_option maxRecDepth 100000 in
theorem plexusref03_Up.calls (a0 : Int) (a1 : Int) (a2 : Bool) (r : Int) (w : World) (h : plexusref03_Up.f a0 a1 a2 = some r) :
    Calls Try.prog 64 #[.int .u64 a0, .int .u64 a1, .bool a2] w fun e w' => e = .returned (.int .u64 r) ∧ Drawn0 w w' := by
  have H : (if a2 = true then ((plexusref03_Join.f a0 a1).bind fun t287 => (some t287)) else ((plexusref03_Join.f a1 a0).bind fun t288 => (some t288))) = some r := h
  clear h
  by_cases c4 : a2 = true
  · subst c4
    have H1 : ((plexusref03_Join.f a0 a1).bind fun t287 => (some t287)) = some r := by rw [if_pos rfl] at H; exact H
    clear H
    have H := H1
    clear H1
    replace H := Option.bind_eq_some_iff.mp H
    obtain ⟨t287, A50, H⟩ := H
    replace H : (some t287) = some r := H
    have A5 := Aside0.mk A50
    clear A50
    obtain rfl := Option.some.inj H
    go_enter Try.func64, Try.ntmps64
    go_wp2_with (first | ((with_reducible refine gate_callee (f := 72) rfl ?_); refine goesL_ (some 10) rfl rfl Try.func72 (by kernel_rfl) rfl #[.int .u64 a0, .int .u64 a1] rfl (by (try simp only [List.map_toArray, List.map_cons, List.map_nil]); first | done | rfl | (simp only [List.length_drop, List.length_take]; rfl)) ?_; (with_reducible refine (plexusref03_Join.calls a0 a1 t287 _ A5.out).mono ?_); rintro e w' ⟨rfl, ⟨nd, rfl⟩⟩; refine ⟨_, rfl, ?_⟩))
    go_ret
    exact ⟨by first | rfl | (simp; done) | (simp [*]; done), by repeat (first | exact Drawn0.refl _ | apply Drawn0.step)⟩
  · replace c4 := Bool.eq_false_iff.mpr c4
    subst c4
    have H1 : ((plexusref03_Join.f a1 a0).bind fun t288 => (some t288)) = some r := by rw [if_neg (show ¬ (false = true) by decide)] at H; exact H
    clear H
    have H := H1
    clear H1
    replace H := Option.bind_eq_some_iff.mp H
    obtain ⟨t288, A60, H⟩ := H
    replace H : (some t288) = some r := H
    have A6 := Aside0.mk A60
    clear A60
    obtain rfl := Option.some.inj H
    go_enter Try.func64, Try.ntmps64
    go_wp2_with (first | ((with_reducible refine gate_callee (f := 72) rfl ?_); refine goesL_ (some 13) rfl rfl Try.func72 (by kernel_rfl) rfl #[.int .u64 a1, .int .u64 a0] rfl (by (try simp only [List.map_toArray, List.map_cons, List.map_nil]); first | done | rfl | (simp only [List.length_drop, List.length_take]; rfl)) ?_; (with_reducible refine (plexusref03_Join.calls a1 a0 t288 _ A6.out).mono ?_); rintro e w' ⟨rfl, ⟨nd, rfl⟩⟩; refine ⟨_, rfl, ?_⟩))
    go_ret
    exact ⟨by first | rfl | (simp; done) | (simp [*]; done), by repeat (first | exact Drawn0.refl _ | apply Drawn0.step)⟩

/-! ### plexuslaw03_SealBinds: function 19 -/
def plexuslaw03_SealBinds.l0 : Nat → Bool → List Int → List Bool → Int → Int → Bool → Int → List Int → Int → Option (Bool)
  | 0, _, _, _, _, _, _, _, _, _ => none
  | k + 1, x7, x12, x13, x14, x15, x16, x17, x301000, x301001 => if x17 < (x13.length : Int) then (if 0 ≤ x17 then (if x17 < (x301000.length : Int) then ((plexusref03_Up.f x14 (rd x301000 x17) (rdOf false x13 x17)).bind fun t309 => (if x17 < (x12.length : Int) then ((plexusref03_Up.f x15 (rd x12 x17) (rdOf false x13 x17)).bind fun t312 => (if x14 = x15 then (if (rd x301000 x17) = (rd x12 x17) then (if x16 = true then (plexuslaw03_SealBinds.l0 k x7 x12 x13 t309 t312 ((rd x301000 x17) == (rd x12 x17)) (wrap64 (x17 + 1)) x301000 x301001) else (plexuslaw03_SealBinds.l0 k x7 x12 x13 t309 t312 false (wrap64 (x17 + 1)) x301000 x301001)) else (if t309 = t312 then (some x7) else (if x16 = true then (plexuslaw03_SealBinds.l0 k x7 x12 x13 t309 t312 ((rd x301000 x17) == (rd x12 x17)) (wrap64 (x17 + 1)) x301000 x301001) else (plexuslaw03_SealBinds.l0 k x7 x12 x13 t309 t312 false (wrap64 (x17 + 1)) x301000 x301001)))) else (if t309 = t312 then (some x7) else (if x16 = true then (plexuslaw03_SealBinds.l0 k x7 x12 x13 t309 t312 ((rd x301000 x17) == (rd x12 x17)) (wrap64 (x17 + 1)) x301000 x301001) else (plexuslaw03_SealBinds.l0 k x7 x12 x13 t309 t312 false (wrap64 (x17 + 1)) x301000 x301001))))) else (none))) else (none)) else (none)) else (if x16 = true then (some x7) else (none))
def plexuslaw03_SealBinds.f (k : Nat) (l0 : List Int) (a1_0 : Int) (a1_1 : Int) (a2_0 : Int) (a2_1 : Int) : Option (Bool) := (plexuslaw03_examples.f k).bind fun t291 => (if t291 = true then ((plexusref03_Grown.f k l0 (wrap64 (1 + (wrap64 (Int.tmod a1_0 60))))).bind fun t292 => (if (t292.length : Int) = 0 then (none) else ((seal_Root.f k t292).bind fun t295 => ((plexuslaw03_opened.f k t292 (Int.tmod (wrap64 (a1_1)) (t292.length : Int))).bind fun bt296 => (if 0 ≤ (mn (l0.length : Int) (bt296.1.length : Int)) then (if (mn (l0.length : Int) (bt296.1.length : Int)) ≤ (l0.length : Int) then (if bt296.2 = 0 then ((plexuslaw03_check.f k t295 (t292.length : Int) (l0.take ((mn (l0.length : Int) (bt296.1.length : Int)) : Int).toNat) (Int.tmod (wrap64 (a1_1)) (t292.length : Int)) a2_1).bind fun t302 => (if t302 = 0 then ((plexusref03_Sides.f k (t292.length : Int) (Int.tmod (wrap64 (a1_1)) (t292.length : Int))).bind fun t303 => (if ((l0.take ((mn (l0.length : Int) (bt296.1.length : Int)) : Int).toNat).length : Int) = (t303.length : Int) then (if (bt296.1.length : Int) = (t303.length : Int) then (if 0 ≤ (Int.tmod (wrap64 (a1_1)) (t292.length : Int)) then (if (Int.tmod (wrap64 (a1_1)) (t292.length : Int)) < (t292.length : Int) then (plexuslaw03_SealBinds.l0 k t291 (l0.take ((mn (l0.length : Int) (bt296.1.length : Int)) : Int).toNat) t303 (rd t292 (Int.tmod (wrap64 (a1_1)) (t292.length : Int))) a2_1 ((rd t292 (Int.tmod (wrap64 (a1_1)) (t292.length : Int))) == a2_1) 0 bt296.1 bt296.2) else (none)) else (none)) else (none)) else (none))) else (some t291))) else (none)) else (none)) else (none)))))) else (none))
theorem plexuslaw03_SealBinds.mono_l : ∀ k, (∀ y0 y1 y2 y3 y4 y5 y6 y7 y8, LeO (plexuslaw03_SealBinds.l0 k y0 y1 y2 y3 y4 y5 y6 y7 y8) (plexuslaw03_SealBinds.l0 (k + 1) y0 y1 y2 y3 y4 y5 y6 y7 y8))
  | 0 => fun _ _ _ _ _ _ _ _ _ r h => by simp [plexuslaw03_SealBinds.l0] at h
  | k + 1 => by
    have ih0 := plexuslaw03_SealBinds.mono_l k
    · intro y0 y1 y2 y3 y4 y5 y6 y7 y8
      unfold plexuslaw03_SealBinds.l0
      repeat' first
      | (with_reducible exact ih0 _ _ _ _ _ _ _ _ _)
      | (with_reducible exact plexuslaw03_check.mono _ _ _ _ _ _)
      | (with_reducible exact plexuslaw03_examples.mono _)
      | (with_reducible exact plexuslaw03_opened.mono _ _ _)
      | (with_reducible exact plexusref03_Grown.mono _ _ _)
      | (with_reducible exact plexusref03_Sides.mono _ _ _)
      | (with_reducible exact seal_Root.mono _ _)
      | (with_reducible exact LeO.refl _)
      | (with_reducible exact LeO.none _)
      | (with_reducible refine LeO.ite ?_ ?_)
      | (with_reducible refine LeO.bind ?_ (fun _ => ?_))
      | exact ih0 _ _ _ _ _ _ _ _ _
      | exact plexuslaw03_check.mono _ _ _ _ _ _
      | exact plexuslaw03_examples.mono _
      | exact plexuslaw03_opened.mono _ _ _
      | exact plexusref03_Grown.mono _ _ _
      | exact plexusref03_Sides.mono _ _ _
      | exact seal_Root.mono _ _
      | exact LeO.none _
      | refine LeO.ite ?_ ?_
      | refine LeO.bind ?_ (fun _ => ?_)
theorem plexuslaw03_SealBinds.mono : ∀ a0 a1 a2 a3 a4 k, LeO (plexuslaw03_SealBinds.f k a0 a1 a2 a3 a4) (plexuslaw03_SealBinds.f (k + 1) a0 a1 a2 a3 a4) := by
  intro a0 a1 a2 a3 a4 k
  have ih0 := plexuslaw03_SealBinds.mono_l k
  unfold plexuslaw03_SealBinds.f
  repeat' first
      | (with_reducible exact ih0 _ _ _ _ _ _ _ _ _)
      | (with_reducible exact plexuslaw03_check.mono _ _ _ _ _ _)
      | (with_reducible exact plexuslaw03_examples.mono _)
      | (with_reducible exact plexuslaw03_opened.mono _ _ _)
      | (with_reducible exact plexusref03_Grown.mono _ _ _)
      | (with_reducible exact plexusref03_Sides.mono _ _ _)
      | (with_reducible exact seal_Root.mono _ _)
      | (with_reducible exact LeO.refl _)
      | (with_reducible exact LeO.none _)
      | (with_reducible refine LeO.ite ?_ ?_)
      | (with_reducible refine LeO.bind ?_ (fun _ => ?_))
      | exact ih0 _ _ _ _ _ _ _ _ _
      | exact plexuslaw03_check.mono _ _ _ _ _ _
      | exact plexuslaw03_examples.mono _
      | exact plexuslaw03_opened.mono _ _ _
      | exact plexusref03_Grown.mono _ _ _
      | exact plexusref03_Sides.mono _ _ _
      | exact seal_Root.mono _ _
      | exact LeO.none _
      | refine LeO.ite ?_ ?_
      | refine LeO.bind ?_ (fun _ => ?_)
end Go.Proofs.Ytcanekmlabehgaa.P03
