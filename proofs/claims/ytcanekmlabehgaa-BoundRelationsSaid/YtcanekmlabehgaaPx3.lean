-- PRINTED by print.py (a twelfth state) out of the translation. Not trusted: Lean checks it.
import Derived.Test.YtcanekmlabehgaaPx0
import Derived.Test.YtcanekmlabehgaaPx1
import Derived.Test.YtcanekmlabehgaaPx2
namespace Go.Proofs.Ytcanekmlabehgaa.P
open Go.RowKit Go.Proofs.YtcanekmlabehgaaW.PrintWords Go.Proofs.YtcanekmlabehgaaW.PrintLast Go.Proofs.YtcanekmlabehgaaW.PrintMore
attribute [local go_sem] max2_int min2_int max_two min_two max_three min_three max_four min_four   -- for this text's walks alone
set_option linter.unusedVariables false
set_option linter.unusedSimpArgs false

attribute [local go_sem high] eqA52
/-! ### plexuslaw23_best: function 44 -/
def plexuslaw23_best.f (k : Nat) (a0 : Int) (a1 : Int) : Option (Int × Int) := (bound_Best.f k a0 a1).bind fun bt117 => (some (bt117.1, bt117.2))
theorem plexuslaw23_best.mono : ∀ a0 a1 k, LeO (plexuslaw23_best.f k a0 a1) (plexuslaw23_best.f (k + 1) a0 a1) := by
  intro a0 a1 k
  unfold plexuslaw23_best.f
  repeat' first
      | (with_reducible exact bound_Best.mono _ _ _)
      | (with_reducible exact LeO.refl _)
      | (with_reducible exact LeO.none _)
      | (with_reducible refine LeO.ite ?_ ?_)
      | (with_reducible refine LeO.bind ?_ (fun _ => ?_))
      | exact bound_Best.mono _ _ _
      | exact LeO.none _
      | refine LeO.ite ?_ ?_
      | refine LeO.bind ?_ (fun _ => ?_)
set_option maxHeartbeats 8000000 in
set_option maxRecDepth 100000 in
theorem plexuslaw23_best.calls (k : Nat) (a0 : Int) (a1 : Int) (r1 : Int) (r2 : Int) (w : World) (h : plexuslaw23_best.f k a0 a1 = some (r1, r2)) :
    Calls Try.prog 44 #[.int .i64 a0, .int .i64 a1] w fun e w' => e = .returned (.agg #[.int .i64 r1, .int .i64 r2]) ∧ Below w.heap.size w w' := by
  have hu52 := Try.underlying52
  have HB := Aside0.mk (Below.refl w.heap.size w)
  have H : ((bound_Best.f k a0 a1).bind fun bt117 => (some (bt117.1, bt117.2))) = some (r1, r2) := h
  clear h
  replace H := Option.bind_eq_some_iff.mp H
  obtain ⟨⟨t117, t118⟩, A30, H⟩ := H
  replace H : (some (t117, t118)) = some (r1, r2) := H
  have A3 := Aside0.mk A30
  clear A30
  simp only [Option.some.injEq, Prod.mk.injEq] at H
  obtain ⟨rfl, rfl⟩ := H
  go_enter Try.func44, Try.ntmps44
  go_wp2_with (first | ((with_reducible refine gate_dst (N := 4) rfl ?_); refine box_event ?hg (N := 4) ?hd (cs := #[.int .i64 0, .int .i64 0]) (t := 52) ?hr ?_; (case hd => rfl); (case hg => rfl); (case hr => first | (go_simp; done) | (go_simp; rfl)); intro gb116 hg w4 hbox hb; have n0_ := Aside0.mk (below_step (by repeat (first | (with_reducible first | exact HB.out | apply below_alloc | apply pw_below_drewN | apply below_drew1) | exact HB.out)) hb); have n1_ := Aside0.mk (hbox); have n2_ := Aside0.mk ((by rw [hg]; exact (below_size (by repeat (first | (with_reducible first | exact HB.out | apply below_alloc | apply pw_below_drewN | apply below_drew1) | exact HB.out))) : w.heap.size ≤ gb116)); have n3_ := Aside0.mk ((by rw [hg]; exact (below_size (by repeat (first | (with_reducible first | exact HB.out | apply below_alloc | apply pw_below_drewN | apply below_drew1) | exact HB.out))) : w.heap.size ≤ gb116)); clear HB; have HB := n0_; have BK116 := n1_; have GW116 := n2_; have GE116 := n3_; clear n0_ n1_ n2_ n3_; clear hb hbox hg) | ((with_reducible refine gate_callee (f := 93) rfl ?_); refine goesL_ (some 10) rfl rfl Try.func93 (by kernel_rfl) rfl #[.int .i64 a0, .int .i64 a1] rfl (by (try simp only [List.map_toArray, List.map_cons, List.map_nil]); first | done | rfl | (simp only [List.length_drop, List.length_take]; rfl)) ?_; (with_reducible refine (bound_Best.calls k a0 a1 t117 t118 _ A3.out).mono ?_); rintro e w5 ⟨rfl, hb⟩; refine ⟨_, rfl, ?_⟩; have n0_ := Aside0.mk (blk_below (g := gb116) (o := .cells #[.int .i64 0, .int .i64 0] 52 (0, 0)) (by (with_reducible repeat (first | refine blk_drewN ?_ _ | refine blk_drew ?_ | refine blk_alloc ?_ _)); exact BK116.out) hb); have n1_ := Aside0.mk (below_step (by repeat (first | (with_reducible first | exact HB.out | apply below_alloc | apply pw_below_drewN | apply below_drew1 | refine below_set ?_ GE116.out) | exact HB.out)) hb); clear BK116; clear HB; have BK116 := n0_; have HB := n1_; clear n0_ n1_; (try clear hb); (try clear hb2); (try clear hk); (try clear hi); have hcz6_0 : w5.cell? ⟨gb116, 0, none⟩ = some (.int .i64 0) := (blk_cell BK116.out 0).trans rfl; have hcz6_1 : w5.cell? ⟨gb116, 1, none⟩ = some (.int .i64 0) := (blk_cell BK116.out 1).trans rfl; have hfz6_0 := blk_frozen BK116.out 0; have hfz6_1 := blk_frozen BK116.out 1))
  refine bodyPost_ret (results_cell_row rfl _ _ gb116 52 #[.int .i64 t117, .int .i64 t118] (0, 0) _ rfl (by (with_reducible repeat (first | refine blk_drewN ?_ _ | refine blk_drew ?_ | refine blk_alloc ?_ _)); refine blk_put (cs := #[.int .i64 t117, .int .i64 0]) ?_ 1 _ rfl; (with_reducible repeat (first | refine blk_drewN ?_ _ | refine blk_drew ?_ | refine blk_alloc ?_ _)); refine blk_put (cs := #[.int .i64 0, .int .i64 0]) ?_ 0 _ rfl; (with_reducible repeat (first | refine blk_drewN ?_ _ | refine blk_drew ?_ | refine blk_alloc ?_ _)); exact BK116.out) Try.underlying52 rfl (by kernel_rfl)) rfl ?_
  exact ⟨by first | rfl | (simp [errW_none, errW_some] <;> rfl) | (simp [*, errW_none, errW_some] <;> rfl), by repeat (first | (with_reducible first | exact HB.out | apply below_alloc | apply pw_below_drewN | apply below_drew1 | refine below_set ?_ GE116.out) | exact HB.out)⟩

-- NOT PRINTED: function 118 (bits_OnesCount32)

/-! ### bits_OnesCount64: function 119 -/
def bits_OnesCount64.f (a0 : Int) : Option (Int) := some (Go.bits .and .i64 (wrap64 (IntKind.u64.wrap ((IntKind.u64.wrap ((IntKind.u64.wrap ((Go.bits .and .u64 (IntKind.u64.wrap (((IntKind.u64.wrap ((Go.bits .and .u64 ((IntKind.u64.wrap ((Go.bits .and .u64 (a0 / 2) 6148914691236517205) + (Go.bits .and .u64 a0 6148914691236517205))) / 4) 3689348814741910323) + (Go.bits .and .u64 (IntKind.u64.wrap ((Go.bits .and .u64 (a0 / 2) 6148914691236517205) + (Go.bits .and .u64 a0 6148914691236517205))) 3689348814741910323))) / 16) + (IntKind.u64.wrap ((Go.bits .and .u64 ((IntKind.u64.wrap ((Go.bits .and .u64 (a0 / 2) 6148914691236517205) + (Go.bits .and .u64 a0 6148914691236517205))) / 4) 3689348814741910323) + (Go.bits .and .u64 (IntKind.u64.wrap ((Go.bits .and .u64 (a0 / 2) 6148914691236517205) + (Go.bits .and .u64 a0 6148914691236517205))) 3689348814741910323))))) 1085102592571150095) + ((Go.bits .and .u64 (IntKind.u64.wrap (((IntKind.u64.wrap ((Go.bits .and .u64 ((IntKind.u64.wrap ((Go.bits .and .u64 (a0 / 2) 6148914691236517205) + (Go.bits .and .u64 a0 6148914691236517205))) / 4) 3689348814741910323) + (Go.bits .and .u64 (IntKind.u64.wrap ((Go.bits .and .u64 (a0 / 2) 6148914691236517205) + (Go.bits .and .u64 a0 6148914691236517205))) 3689348814741910323))) / 16) + (IntKind.u64.wrap ((Go.bits .and .u64 ((IntKind.u64.wrap ((Go.bits .and .u64 (a0 / 2) 6148914691236517205) + (Go.bits .and .u64 a0 6148914691236517205))) / 4) 3689348814741910323) + (Go.bits .and .u64 (IntKind.u64.wrap ((Go.bits .and .u64 (a0 / 2) 6148914691236517205) + (Go.bits .and .u64 a0 6148914691236517205))) 3689348814741910323))))) 1085102592571150095) / 256))) + ((IntKind.u64.wrap ((Go.bits .and .u64 (IntKind.u64.wrap (((IntKind.u64.wrap ((Go.bits .and .u64 ((IntKind.u64.wrap ((Go.bits .and .u64 (a0 / 2) 6148914691236517205) + (Go.bits .and .u64 a0 6148914691236517205))) / 4) 3689348814741910323) + (Go.bits .and .u64 (IntKind.u64.wrap ((Go.bits .and .u64 (a0 / 2) 6148914691236517205) + (Go.bits .and .u64 a0 6148914691236517205))) 3689348814741910323))) / 16) + (IntKind.u64.wrap ((Go.bits .and .u64 ((IntKind.u64.wrap ((Go.bits .and .u64 (a0 / 2) 6148914691236517205) + (Go.bits .and .u64 a0 6148914691236517205))) / 4) 3689348814741910323) + (Go.bits .and .u64 (IntKind.u64.wrap ((Go.bits .and .u64 (a0 / 2) 6148914691236517205) + (Go.bits .and .u64 a0 6148914691236517205))) 3689348814741910323))))) 1085102592571150095) + ((Go.bits .and .u64 (IntKind.u64.wrap (((IntKind.u64.wrap ((Go.bits .and .u64 ((IntKind.u64.wrap ((Go.bits .and .u64 (a0 / 2) 6148914691236517205) + (Go.bits .and .u64 a0 6148914691236517205))) / 4) 3689348814741910323) + (Go.bits .and .u64 (IntKind.u64.wrap ((Go.bits .and .u64 (a0 / 2) 6148914691236517205) + (Go.bits .and .u64 a0 6148914691236517205))) 3689348814741910323))) / 16) + (IntKind.u64.wrap ((Go.bits .and .u64 ((IntKind.u64.wrap ((Go.bits .and .u64 (a0 / 2) 6148914691236517205) + (Go.bits .and .u64 a0 6148914691236517205))) / 4) 3689348814741910323) + (Go.bits .and .u64 (IntKind.u64.wrap ((Go.bits .and .u64 (a0 / 2) 6148914691236517205) + (Go.bits .and .u64 a0 6148914691236517205))) 3689348814741910323))))) 1085102592571150095) / 256))) / 65536))) + ((IntKind.u64.wrap ((IntKind.u64.wrap ((Go.bits .and .u64 (IntKind.u64.wrap (((IntKind.u64.wrap ((Go.bits .and .u64 ((IntKind.u64.wrap ((Go.bits .and .u64 (a0 / 2) 6148914691236517205) + (Go.bits .and .u64 a0 6148914691236517205))) / 4) 3689348814741910323) + (Go.bits .and .u64 (IntKind.u64.wrap ((Go.bits .and .u64 (a0 / 2) 6148914691236517205) + (Go.bits .and .u64 a0 6148914691236517205))) 3689348814741910323))) / 16) + (IntKind.u64.wrap ((Go.bits .and .u64 ((IntKind.u64.wrap ((Go.bits .and .u64 (a0 / 2) 6148914691236517205) + (Go.bits .and .u64 a0 6148914691236517205))) / 4) 3689348814741910323) + (Go.bits .and .u64 (IntKind.u64.wrap ((Go.bits .and .u64 (a0 / 2) 6148914691236517205) + (Go.bits .and .u64 a0 6148914691236517205))) 3689348814741910323))))) 1085102592571150095) + ((Go.bits .and .u64 (IntKind.u64.wrap (((IntKind.u64.wrap ((Go.bits .and .u64 ((IntKind.u64.wrap ((Go.bits .and .u64 (a0 / 2) 6148914691236517205) + (Go.bits .and .u64 a0 6148914691236517205))) / 4) 3689348814741910323) + (Go.bits .and .u64 (IntKind.u64.wrap ((Go.bits .and .u64 (a0 / 2) 6148914691236517205) + (Go.bits .and .u64 a0 6148914691236517205))) 3689348814741910323))) / 16) + (IntKind.u64.wrap ((Go.bits .and .u64 ((IntKind.u64.wrap ((Go.bits .and .u64 (a0 / 2) 6148914691236517205) + (Go.bits .and .u64 a0 6148914691236517205))) / 4) 3689348814741910323) + (Go.bits .and .u64 (IntKind.u64.wrap ((Go.bits .and .u64 (a0 / 2) 6148914691236517205) + (Go.bits .and .u64 a0 6148914691236517205))) 3689348814741910323))))) 1085102592571150095) / 256))) + ((IntKind.u64.wrap ((Go.bits .and .u64 (IntKind.u64.wrap (((IntKind.u64.wrap ((Go.bits .and .u64 ((IntKind.u64.wrap ((Go.bits .and .u64 (a0 / 2) 6148914691236517205) + (Go.bits .and .u64 a0 6148914691236517205))) / 4) 3689348814741910323) + (Go.bits .and .u64 (IntKind.u64.wrap ((Go.bits .and .u64 (a0 / 2) 6148914691236517205) + (Go.bits .and .u64 a0 6148914691236517205))) 3689348814741910323))) / 16) + (IntKind.u64.wrap ((Go.bits .and .u64 ((IntKind.u64.wrap ((Go.bits .and .u64 (a0 / 2) 6148914691236517205) + (Go.bits .and .u64 a0 6148914691236517205))) / 4) 3689348814741910323) + (Go.bits .and .u64 (IntKind.u64.wrap ((Go.bits .and .u64 (a0 / 2) 6148914691236517205) + (Go.bits .and .u64 a0 6148914691236517205))) 3689348814741910323))))) 1085102592571150095) + ((Go.bits .and .u64 (IntKind.u64.wrap (((IntKind.u64.wrap ((Go.bits .and .u64 ((IntKind.u64.wrap ((Go.bits .and .u64 (a0 / 2) 6148914691236517205) + (Go.bits .and .u64 a0 6148914691236517205))) / 4) 3689348814741910323) + (Go.bits .and .u64 (IntKind.u64.wrap ((Go.bits .and .u64 (a0 / 2) 6148914691236517205) + (Go.bits .and .u64 a0 6148914691236517205))) 3689348814741910323))) / 16) + (IntKind.u64.wrap ((Go.bits .and .u64 ((IntKind.u64.wrap ((Go.bits .and .u64 (a0 / 2) 6148914691236517205) + (Go.bits .and .u64 a0 6148914691236517205))) / 4) 3689348814741910323) + (Go.bits .and .u64 (IntKind.u64.wrap ((Go.bits .and .u64 (a0 / 2) 6148914691236517205) + (Go.bits .and .u64 a0 6148914691236517205))) 3689348814741910323))))) 1085102592571150095) / 256))) / 65536))) / 4294967296)))) 127)
set_option maxHeartbeats 8000000 in
set_option maxRecDepth 100000 in
theorem bits_OnesCount64.calls (a0 : Int) (r : Int) (w : World) (h : bits_OnesCount64.f a0 = some r) :
    Calls Try.prog 119 #[.int .u64 a0] w fun e w' => e = .returned (.int .i64 r) ∧ Drawn0 w w' := by
  have H : (some (Go.bits .and .i64 (wrap64 (IntKind.u64.wrap ((IntKind.u64.wrap ((IntKind.u64.wrap ((Go.bits .and .u64 (IntKind.u64.wrap (((IntKind.u64.wrap ((Go.bits .and .u64 ((IntKind.u64.wrap ((Go.bits .and .u64 (a0 / 2) 6148914691236517205) + (Go.bits .and .u64 a0 6148914691236517205))) / 4) 3689348814741910323) + (Go.bits .and .u64 (IntKind.u64.wrap ((Go.bits .and .u64 (a0 / 2) 6148914691236517205) + (Go.bits .and .u64 a0 6148914691236517205))) 3689348814741910323))) / 16) + (IntKind.u64.wrap ((Go.bits .and .u64 ((IntKind.u64.wrap ((Go.bits .and .u64 (a0 / 2) 6148914691236517205) + (Go.bits .and .u64 a0 6148914691236517205))) / 4) 3689348814741910323) + (Go.bits .and .u64 (IntKind.u64.wrap ((Go.bits .and .u64 (a0 / 2) 6148914691236517205) + (Go.bits .and .u64 a0 6148914691236517205))) 3689348814741910323))))) 1085102592571150095) + ((Go.bits .and .u64 (IntKind.u64.wrap (((IntKind.u64.wrap ((Go.bits .and .u64 ((IntKind.u64.wrap ((Go.bits .and .u64 (a0 / 2) 6148914691236517205) + (Go.bits .and .u64 a0 6148914691236517205))) / 4) 3689348814741910323) + (Go.bits .and .u64 (IntKind.u64.wrap ((Go.bits .and .u64 (a0 / 2) 6148914691236517205) + (Go.bits .and .u64 a0 6148914691236517205))) 3689348814741910323))) / 16) + (IntKind.u64.wrap ((Go.bits .and .u64 ((IntKind.u64.wrap ((Go.bits .and .u64 (a0 / 2) 6148914691236517205) + (Go.bits .and .u64 a0 6148914691236517205))) / 4) 3689348814741910323) + (Go.bits .and .u64 (IntKind.u64.wrap ((Go.bits .and .u64 (a0 / 2) 6148914691236517205) + (Go.bits .and .u64 a0 6148914691236517205))) 3689348814741910323))))) 1085102592571150095) / 256))) + ((IntKind.u64.wrap ((Go.bits .and .u64 (IntKind.u64.wrap (((IntKind.u64.wrap ((Go.bits .and .u64 ((IntKind.u64.wrap ((Go.bits .and .u64 (a0 / 2) 6148914691236517205) + (Go.bits .and .u64 a0 6148914691236517205))) / 4) 3689348814741910323) + (Go.bits .and .u64 (IntKind.u64.wrap ((Go.bits .and .u64 (a0 / 2) 6148914691236517205) + (Go.bits .and .u64 a0 6148914691236517205))) 3689348814741910323))) / 16) + (IntKind.u64.wrap ((Go.bits .and .u64 ((IntKind.u64.wrap ((Go.bits .and .u64 (a0 / 2) 6148914691236517205) + (Go.bits .and .u64 a0 6148914691236517205))) / 4) 3689348814741910323) + (Go.bits .and .u64 (IntKind.u64.wrap ((Go.bits .and .u64 (a0 / 2) 6148914691236517205) + (Go.bits .and .u64 a0 6148914691236517205))) 3689348814741910323))))) 1085102592571150095) + ((Go.bits .and .u64 (IntKind.u64.wrap (((IntKind.u64.wrap ((Go.bits .and .u64 ((IntKind.u64.wrap ((Go.bits .and .u64 (a0 / 2) 6148914691236517205) + (Go.bits .and .u64 a0 6148914691236517205))) / 4) 3689348814741910323) + (Go.bits .and .u64 (IntKind.u64.wrap ((Go.bits .and .u64 (a0 / 2) 6148914691236517205) + (Go.bits .and .u64 a0 6148914691236517205))) 3689348814741910323))) / 16) + (IntKind.u64.wrap ((Go.bits .and .u64 ((IntKind.u64.wrap ((Go.bits .and .u64 (a0 / 2) 6148914691236517205) + (Go.bits .and .u64 a0 6148914691236517205))) / 4) 3689348814741910323) + (Go.bits .and .u64 (IntKind.u64.wrap ((Go.bits .and .u64 (a0 / 2) 6148914691236517205) + (Go.bits .and .u64 a0 6148914691236517205))) 3689348814741910323))))) 1085102592571150095) / 256))) / 65536))) + ((IntKind.u64.wrap ((IntKind.u64.wrap ((Go.bits .and .u64 (IntKind.u64.wrap (((IntKind.u64.wrap ((Go.bits .and .u64 ((IntKind.u64.wrap ((Go.bits .and .u64 (a0 / 2) 6148914691236517205) + (Go.bits .and .u64 a0 6148914691236517205))) / 4) 3689348814741910323) + (Go.bits .and .u64 (IntKind.u64.wrap ((Go.bits .and .u64 (a0 / 2) 6148914691236517205) + (Go.bits .and .u64 a0 6148914691236517205))) 3689348814741910323))) / 16) + (IntKind.u64.wrap ((Go.bits .and .u64 ((IntKind.u64.wrap ((Go.bits .and .u64 (a0 / 2) 6148914691236517205) + (Go.bits .and .u64 a0 6148914691236517205))) / 4) 3689348814741910323) + (Go.bits .and .u64 (IntKind.u64.wrap ((Go.bits .and .u64 (a0 / 2) 6148914691236517205) + (Go.bits .and .u64 a0 6148914691236517205))) 3689348814741910323))))) 1085102592571150095) + ((Go.bits .and .u64 (IntKind.u64.wrap (((IntKind.u64.wrap ((Go.bits .and .u64 ((IntKind.u64.wrap ((Go.bits .and .u64 (a0 / 2) 6148914691236517205) + (Go.bits .and .u64 a0 6148914691236517205))) / 4) 3689348814741910323) + (Go.bits .and .u64 (IntKind.u64.wrap ((Go.bits .and .u64 (a0 / 2) 6148914691236517205) + (Go.bits .and .u64 a0 6148914691236517205))) 3689348814741910323))) / 16) + (IntKind.u64.wrap ((Go.bits .and .u64 ((IntKind.u64.wrap ((Go.bits .and .u64 (a0 / 2) 6148914691236517205) + (Go.bits .and .u64 a0 6148914691236517205))) / 4) 3689348814741910323) + (Go.bits .and .u64 (IntKind.u64.wrap ((Go.bits .and .u64 (a0 / 2) 6148914691236517205) + (Go.bits .and .u64 a0 6148914691236517205))) 3689348814741910323))))) 1085102592571150095) / 256))) + ((IntKind.u64.wrap ((Go.bits .and .u64 (IntKind.u64.wrap (((IntKind.u64.wrap ((Go.bits .and .u64 ((IntKind.u64.wrap ((Go.bits .and .u64 (a0 / 2) 6148914691236517205) + (Go.bits .and .u64 a0 6148914691236517205))) / 4) 3689348814741910323) + (Go.bits .and .u64 (IntKind.u64.wrap ((Go.bits .and .u64 (a0 / 2) 6148914691236517205) + (Go.bits .and .u64 a0 6148914691236517205))) 3689348814741910323))) / 16) + (IntKind.u64.wrap ((Go.bits .and .u64 ((IntKind.u64.wrap ((Go.bits .and .u64 (a0 / 2) 6148914691236517205) + (Go.bits .and .u64 a0 6148914691236517205))) / 4) 3689348814741910323) + (Go.bits .and .u64 (IntKind.u64.wrap ((Go.bits .and .u64 (a0 / 2) 6148914691236517205) + (Go.bits .and .u64 a0 6148914691236517205))) 3689348814741910323))))) 1085102592571150095) + ((Go.bits .and .u64 (IntKind.u64.wrap (((IntKind.u64.wrap ((Go.bits .and .u64 ((IntKind.u64.wrap ((Go.bits .and .u64 (a0 / 2) 6148914691236517205) + (Go.bits .and .u64 a0 6148914691236517205))) / 4) 3689348814741910323) + (Go.bits .and .u64 (IntKind.u64.wrap ((Go.bits .and .u64 (a0 / 2) 6148914691236517205) + (Go.bits .and .u64 a0 6148914691236517205))) 3689348814741910323))) / 16) + (IntKind.u64.wrap ((Go.bits .and .u64 ((IntKind.u64.wrap ((Go.bits .and .u64 (a0 / 2) 6148914691236517205) + (Go.bits .and .u64 a0 6148914691236517205))) / 4) 3689348814741910323) + (Go.bits .and .u64 (IntKind.u64.wrap ((Go.bits .and .u64 (a0 / 2) 6148914691236517205) + (Go.bits .and .u64 a0 6148914691236517205))) 3689348814741910323))))) 1085102592571150095) / 256))) / 65536))) / 4294967296)))) 127)) = some r := h
  clear h
  obtain rfl := Option.some.inj H
  go_enter Try.func119, Try.ntmps119
  go_wp2
  go_ret
  exact ⟨by first | rfl | (simp; done) | (simp [*]; done), by repeat (first | exact Drawn0.refl _ | apply Drawn0.step)⟩

/-! ### bits_OnesCount: function 114 -/
def bits_OnesCount.f (a0 : Int) : Option (Int) := (bits_OnesCount64.f a0).bind fun t119 => (some t119)
set_option maxHeartbeats 8000000 in
set_option maxRecDepth 100000 in
theorem bits_OnesCount.calls (a0 : Int) (r : Int) (w : World) (h : bits_OnesCount.f a0 = some r) :
    Calls Try.prog 114 #[.int .u64 a0] w fun e w' => e = .returned (.int .i64 r) ∧ Drawn0 w w' := by
  have H : ((bits_OnesCount64.f a0).bind fun t119 => (some t119)) = some r := h
  clear h
  replace H := Option.bind_eq_some_iff.mp H
  obtain ⟨t119, A20, H⟩ := H
  replace H : (some t119) = some r := H
  have A2 := Aside0.mk A20
  clear A20
  obtain rfl := Option.some.inj H
  go_enter Try.func114, Try.ntmps114
  go_wp2_with (first | ((with_reducible refine gate_callee (f := 119) rfl ?_); refine goesL_ (some 7) rfl rfl Try.func119 (by kernel_rfl) rfl #[.int .u64 a0] rfl (by (try simp only [List.map_toArray, List.map_cons, List.map_nil]); first | done | rfl | (simp only [List.length_drop, List.length_take]; rfl)) ?_; (with_reducible refine (bits_OnesCount64.calls a0 t119 _ A2.out).mono ?_); rintro e w' ⟨rfl, ⟨nd, rfl⟩⟩; refine ⟨_, rfl, ?_⟩))
  go_ret
  exact ⟨by first | rfl | (simp; done) | (simp [*]; done), by repeat (first | exact Drawn0.refl _ | apply Drawn0.step)⟩

/-! ### bound_Greedy: function 94 -/
mutual
def bound_Greedy.l0 : Nat → Int → List Int → Int → Int → Option (List Int × Int)
  | 0, _, _, _, _ => none
  | k + 1, x1, x6, x15, x16 => if x16 < x15 then (bound_Greedy.l1 k x1 x6 x16 x15 x16 (x6.length : Int) 0) else (some (x6, 0))
def bound_Greedy.l1 : Nat → Int → List Int → Int → Int → Int → Int → Int → Option (List Int × Int)
  | 0, _, _, _, _, _, _, _ => none
  | k + 1, x1, x6, x7, x15, x16, x20, x21 => if x21 < x20 then (if 0 ≤ x21 then (if x21 < (x6.length : Int) then ((bits_OnesCount.f (IntKind.u64.wrap (Go.bits .xor .i64 x7 (rd x6 x21)))).bind fun t122 => (if t122 < x1 then (bound_Greedy.l0 k x1 x6 x15 (wrap64 (x16 + 1))) else (bound_Greedy.l1 k x1 x6 x7 x15 x16 x20 (wrap64 (x21 + 1))))) else (none)) else (none)) else (if x6.length < 17592186044416 then (bound_Greedy.l0 k x1 (x6 ++ [x7]) x15 (wrap64 (x16 + 1))) else (none))
end
def bound_Greedy.f (k : Nat) (a0 : Int) (a1 : Int) : Option (List Int × Int) := (bound_fine.f 10 a0 a1).bind fun t120 => (if t120 = true then (if 0 ≤ a0 then (bound_Greedy.l0 k a1 ([] : List Int) (shl .i64 1 a0) 0) else (none)) else (some (([] : List Int), 1)))
theorem bound_Greedy.mono_l : ∀ k, (∀ y0 y1 y2 y3, LeO (bound_Greedy.l0 k y0 y1 y2 y3) (bound_Greedy.l0 (k + 1) y0 y1 y2 y3)) ∧ (∀ y0 y1 y2 y3 y4 y5 y6, LeO (bound_Greedy.l1 k y0 y1 y2 y3 y4 y5 y6) (bound_Greedy.l1 (k + 1) y0 y1 y2 y3 y4 y5 y6))
  | 0 => ⟨fun _ _ _ _ r h => by simp [bound_Greedy.l0] at h, fun _ _ _ _ _ _ _ r h => by simp [bound_Greedy.l1] at h⟩
  | k + 1 => by
    obtain ⟨ih0, ih1⟩ := bound_Greedy.mono_l k
    refine ⟨?_, ?_⟩
    · intro y0 y1 y2 y3
      unfold bound_Greedy.l0
      repeat' first
      | (with_reducible exact ih0 _ _ _ _)
      | (with_reducible exact ih1 _ _ _ _ _ _ _)
      | (with_reducible exact LeO.refl _)
      | (with_reducible exact LeO.none _)
      | (with_reducible refine LeO.ite ?_ ?_)
      | (with_reducible refine LeO.bind ?_ (fun _ => ?_))
      | exact ih0 _ _ _ _
      | exact ih1 _ _ _ _ _ _ _
      | exact LeO.none _
      | refine LeO.ite ?_ ?_
      | refine LeO.bind ?_ (fun _ => ?_)
    · intro y0 y1 y2 y3 y4 y5 y6
      unfold bound_Greedy.l1
      repeat' first
      | (with_reducible exact ih0 _ _ _ _)
      | (with_reducible exact ih1 _ _ _ _ _ _ _)
      | (with_reducible exact LeO.refl _)
      | (with_reducible exact LeO.none _)
      | (with_reducible refine LeO.ite ?_ ?_)
      | (with_reducible refine LeO.bind ?_ (fun _ => ?_))
      | exact ih0 _ _ _ _
      | exact ih1 _ _ _ _ _ _ _
      | exact LeO.none _
      | refine LeO.ite ?_ ?_
      | refine LeO.bind ?_ (fun _ => ?_)
theorem bound_Greedy.mono : ∀ a0 a1 k, LeO (bound_Greedy.f k a0 a1) (bound_Greedy.f (k + 1) a0 a1) := by
  intro a0 a1 k
  obtain ⟨ih0, ih1⟩ := bound_Greedy.mono_l k
  unfold bound_Greedy.f
  repeat' first
      | (with_reducible exact ih0 _ _ _ _)
      | (with_reducible exact ih1 _ _ _ _ _ _ _)
      | (with_reducible exact LeO.refl _)
      | (with_reducible exact LeO.none _)
      | (with_reducible refine LeO.ite ?_ ?_)
      | (with_reducible refine LeO.bind ?_ (fun _ => ?_))
      | exact ih0 _ _ _ _
      | exact ih1 _ _ _ _ _ _ _
      | exact LeO.none _
      | refine LeO.ite ?_ ?_
      | refine LeO.bind ?_ (fun _ => ?_)
set_option maxHeartbeats 8000000 in
set_option maxRecDepth 100000 in
theorem bound_Greedy.calls (k : Nat) (a0 : Int) (a1 : Int) (r1 : List Int) (r2 : Int) (w : World) (h : bound_Greedy.f k a0 a1 = some (r1, r2)) :
    Calls Try.prog 94 #[.int .i64 a0, .int .i64 a1] w fun e w' => ∃ v0_ : Value, e = .returned (.tuple #[v0_, .int .i64 r2]) ∧ Kd.R (Kd.int .i64) 3 w' w.heap.size (fun _ => True) v0_ r1 ∧ Below w.heap.size w w' := by
  have HB := Aside0.mk (Below.refl w.heap.size w)
  have H : ((bound_fine.f 10 a0 a1).bind fun t120 => (if t120 = true then (if 0 ≤ a0 then (bound_Greedy.l0 k a1 ([] : List Int) (shl .i64 1 a0) 0) else (none)) else (some (([] : List Int), 1)))) = some (r1, r2) := h
  clear h
  replace H := Option.bind_eq_some_iff.mp H
  obtain ⟨t120, A30, H⟩ := H
  replace H : (if t120 = true then (if 0 ≤ a0 then (bound_Greedy.l0 k a1 ([] : List Int) (shl .i64 1 a0) 0) else (none)) else (some (([] : List Int), 1))) = some (r1, r2) := H
  have A3 := Aside0.mk A30
  clear A30
  by_cases c4 : t120 = true
  · subst c4
    have H1 : (if 0 ≤ a0 then (bound_Greedy.l0 k a1 ([] : List Int) (shl .i64 1 a0) 0) else (none)) = some (r1, r2) := by rw [if_pos rfl] at H; exact H
    clear H
    have H := H1
    clear H1
    by_cases c5 : 0 ≤ a0
    · rw [if_pos c5] at H
      have c5b0 := eq_true c5
      have c5b1 : decide (0 ≤ a0) = true := decide_eq_true c5
      clear c5
      obtain ⟨ji6, hji6⟩ : ∃ j_ : Int, (shl .i64 1 a0) = j_ := ⟨_, rfl⟩
      replace H : (bound_Greedy.l0 k a1 ([] : List Int) ji6 0) = some (r1, r2) := by first | (rw [hji6] at H; exact H) | (simp only [hji6] at H ⊢; exact H)
      (try rw [hji6] at A3)
      have hji6_ : (IntKind.i64.wrap (1 * 2 ^ min a0.toNat 64)) = ji6 := hji6
      have hji6z : a0 ≤ 64 → (IntKind.i64.wrap (1 * 2 ^ a0.toNat)) = ji6 := shl_small hji6
      have hji6u : (IntKind.i64.wrap (2 ^ min a0.toNat 64)) = ji6 := by have h_ := hji6_; rw [Int.one_mul] at h_; exact h_
      have hji6v : a0 ≤ 64 → (IntKind.i64.wrap (2 ^ a0.toNat)) = ji6 := fun hle_ => by have h_ := hji6z hle_; rw [Int.one_mul] at h_; exact h_
      have hji6y : (wrap64 (1 * 2 ^ min a0.toNat 64)) = ji6 := (i64_w _).symm.trans hji6_
      have hji6x : a0 ≤ 64 → (wrap64 (1 * 2 ^ a0.toNat)) = ji6 := fun h_ => (i64_w _).symm.trans (hji6z h_)
      have H' := Aside0.mk H
      clear H
      go_enter Try.func94, Try.ntmps94
      go_wp2
      go_step3
      go_wp2_with (first | ((with_reducible refine gate_callee (f := 111) rfl ?_); refine goesL_ (some 12) rfl rfl Try.func111 (by kernel_rfl) rfl #[.int .i64 10, .int .i64 a0, .int .i64 a1] rfl (by (try simp only [List.map_toArray, List.map_cons, List.map_nil]); first | done | rfl | (simp only [List.length_drop, List.length_take]; rfl)) ?_; (with_reducible refine (bound_fine.calls 10 a0 a1 true _ A3.out).mono ?_); rintro e w' ⟨rfl, ⟨nd, rfl⟩⟩; refine ⟨_, rfl, ?_⟩))
      go_step3
      go_wp2
      go_loopg [6, 16] k (fun kq v6 v16 w' => ∃ (x6_1 : List Int) (x16_1 : Int), v16 = .int .i64 x16_1 ∧ Aside0 (bound_Greedy.l0 kq a1 x6_1 ji6 x16_1 = some (r1, r2)) ∧ Aside0 (kq ≤ k) ∧ Aside0 (Kd.R (Kd.int .i64) 3 w' w.heap.size (fun _ => True) v6 x6_1) ∧ Aside0 (Below w.heap.size w w'))
      case atStart => exact ⟨(([] : List Int)), (0), (by first | rfl | (simp; done) | (congr 2; (try unfold wrap64); omega) | (simp [*]; done)), H', ⟨Nat.le_refl _⟩, ⟨by first | exact Kd.R_nil _ _ _ _ _ | exact Kd.N_nil _ _ _ _ _ | exact Kd.V_nil _ _ _ _ _ | exact Kd.Q_nil _ _ _ _ _ | exact Kd.S_nil _ _ _ _ _⟩, ⟨by repeat (first | (with_reducible first | exact HB.out | apply below_alloc | apply pw_below_drewN | apply below_drew1) | exact HB.out)⟩⟩
      case round =>
        clear H'
        try clear c1
        try clear p2
        try clear p3
        try clear c4
        try clear c5
        try clear c5b0
        try clear c5b1
        try clear p6
        obtain ⟨x6_1, x16_1, rfl, HA, HK1, HO_6, HB⟩ := hrel
        cases gk with
        | zero => exact absurd HA.out (by simp [bound_Greedy.l0])
        | succ k1 =>
          have H := HA.out
          clear HA
          simp only [bound_Greedy.l0] at H
          by_cases c7 : x16_1 < ji6
          · rw [if_pos c7] at H
            have c7b0 : decide (x16_1 < ji6) = true := decide_eq_true c7
            clear c7
            have H' := Aside0.mk H
            clear H
            obtain ⟨Ao8, co8, eo8⟩ := Kd.R_slice HO_6.out
            subst eo8
            go_wp2
            go_loopg [21] k1 (fun kq v21 w' => ∃ (x21_2 : Int), v21 = .int .i64 x21_2 ∧ Aside0 (bound_Greedy.l1 kq a1 x6_1 x16_1 ji6 x16_1 (x6_1.length : Int) x21_2 = some (r1, r2)) ∧ Aside0 (kq ≤ k1) ∧ Aside0 (Kd.R (Kd.int .i64) 3 w' w.heap.size (fun _ => True) (.slice Ao8 x6_1.length co8) x6_1) ∧ Aside0 (Below w.heap.size w w'))
            case atStart => exact ⟨(0), (by first | rfl | (simp; done) | (congr 2; (try unfold wrap64); omega) | (simp [*]; done)), H', ⟨Nat.le_refl _⟩, ⟨by (with_reducible repeat (first | apply Kd.R_alloc | apply Kd.R_drewN | apply Kd.R_drew)); exact HO_6.out⟩, ⟨by repeat (first | (with_reducible first | exact HB.out | apply below_alloc | apply pw_below_drewN | apply below_drew1) | exact HB.out)⟩⟩
            case round =>
              clear H'
              try clear c1
              try clear p2
              try clear p3
              try clear c4
              try clear c5
              try clear c5b0
              try clear c5b1
              try clear p6
              try clear c7
              try clear c7b0
              try clear p2
              try clear p3
              try clear p6
              obtain ⟨x21_2, rfl, HA, HK2, HO_6, HB⟩ := hrel
              cases gk with
              | zero => exact absurd HA.out (by simp [bound_Greedy.l1])
              | succ k2 =>
                have H := HA.out
                clear HA
                simp only [bound_Greedy.l1] at H
                by_cases c9 : x21_2 < (x6_1.length : Int)
                · rw [if_pos c9] at H
                  have c9b0 : decide (x21_2 < (x6_1.length : Int)) = true := decide_eq_true c9
                  clear c9
                  by_cases c10 : 0 ≤ x21_2
                  · rw [if_pos c10] at H
                    have c10b0 : decide (0 ≤ x21_2) = true := decide_eq_true c10
                    clear c10
                    by_cases c11 : x21_2 < (x6_1.length : Int)
                    · rw [if_pos c11] at H
                      have c11b0 : decide (x21_2 < (x6_1.length : Int)) = true := decide_eq_true c11
                      clear c11
                      replace H := Option.bind_eq_some_iff.mp H
                      obtain ⟨t122, A120, H⟩ := H
                      replace H : (if t122 < a1 then (bound_Greedy.l0 k2 a1 x6_1 ji6 (wrap64 (x16_1 + 1))) else (bound_Greedy.l1 k2 a1 x6_1 x16_1 ji6 x16_1 (x6_1.length : Int) (wrap64 (x21_2 + 1)))) = some (r1, r2) := H
                      have A12 := Aside0.mk A120
                      clear A120
                      by_cases c13 : t122 < a1
                      · rw [if_pos c13] at H
                        have c13b0 : decide (t122 < a1) = true := decide_eq_true c13
                        clear c13
                        have H' := Aside0.mk H
                        clear H
                        have p121 : 0 ≤ (x21_2 : Int) := of_decide_eq_true (by first | (with_reducible assumption) | assumption)
                        have q121 : x21_2 < (x6_1.length : Int) := of_decide_eq_true (by first | (with_reducible assumption) | assumption)
                        obtain ⟨ad121, e121, hx121_0⟩ := Kd.at_int (Kd.R_reads' HO_6.out).2.2 x21_2 p121 q121
                        cases e121
                        replace p121 := eq_true p121
                        replace q121 := eq_true q121
                        go_wp2_with (first | ((with_reducible refine gate_callee (f := 114) rfl ?_); refine goesL_ (some 29) rfl rfl Try.func114 (by kernel_rfl) rfl #[.int .u64 (IntKind.u64.wrap (Go.bits .xor .i64 x16_1 (rd x6_1 x21_2)))] rfl (by (try simp only [List.map_toArray, List.map_cons, List.map_nil]); first | done | rfl | (simp only [List.length_drop, List.length_take]; rfl)) ?_; (with_reducible refine (bits_OnesCount.calls (IntKind.u64.wrap (Go.bits .xor .i64 x16_1 (rd x6_1 x21_2))) t122 _ A12.out).mono ?_); rintro e w' ⟨rfl, ⟨nd, rfl⟩⟩; refine ⟨_, rfl, ?_⟩))
                        go_roundg k2
                        case measure => have := HK1.out; have := HK2.out; omega
                        case rel => exact ⟨(x6_1), (wrap64 (x16_1 + 1)), (by first | rfl | (simp; done) | (congr 2; (try unfold wrap64); omega) | (simp [*]; done)), H', ⟨by have := HK1.out; have := HK2.out; omega⟩, ⟨by (with_reducible repeat (first | apply Kd.R_alloc | apply Kd.R_drewN | apply Kd.R_drew)); exact HO_6.out⟩, ⟨by repeat (first | (with_reducible first | exact HB.out | apply below_alloc | apply pw_below_drewN | apply below_drew1) | exact HB.out)⟩⟩
                      · rw [if_neg c13] at H
                        have c13b0 : decide (t122 < a1) = false := decide_eq_false c13
                        clear c13
                        have H' := Aside0.mk H
                        clear H
                        have p121 : 0 ≤ (x21_2 : Int) := of_decide_eq_true (by first | (with_reducible assumption) | assumption)
                        have q121 : x21_2 < (x6_1.length : Int) := of_decide_eq_true (by first | (with_reducible assumption) | assumption)
                        obtain ⟨ad121, e121, hx121_0⟩ := Kd.at_int (Kd.R_reads' HO_6.out).2.2 x21_2 p121 q121
                        cases e121
                        replace p121 := eq_true p121
                        replace q121 := eq_true q121
                        go_wp2_with (first | ((with_reducible refine gate_callee (f := 114) rfl ?_); refine goesL_ (some 29) rfl rfl Try.func114 (by kernel_rfl) rfl #[.int .u64 (IntKind.u64.wrap (Go.bits .xor .i64 x16_1 (rd x6_1 x21_2)))] rfl (by (try simp only [List.map_toArray, List.map_cons, List.map_nil]); first | done | rfl | (simp only [List.length_drop, List.length_take]; rfl)) ?_; (with_reducible refine (bits_OnesCount.calls (IntKind.u64.wrap (Go.bits .xor .i64 x16_1 (rd x6_1 x21_2))) t122 _ A12.out).mono ?_); rintro e w' ⟨rfl, ⟨nd, rfl⟩⟩; refine ⟨_, rfl, ?_⟩))
                        go_roundg k2
                        case measure => have := HK1.out; have := HK2.out; omega
                        case rel => exact ⟨(wrap64 (x21_2 + 1)), (by first | rfl | (simp; done) | (congr 2; (try unfold wrap64); omega) | (simp [*]; done)), H', ⟨by have := HK1.out; have := HK2.out; omega⟩, ⟨by (with_reducible repeat (first | apply Kd.R_alloc | apply Kd.R_drewN | apply Kd.R_drew)); exact HO_6.out⟩, ⟨by repeat (first | (with_reducible first | exact HB.out | apply below_alloc | apply pw_below_drewN | apply below_drew1) | exact HB.out)⟩⟩
                    · rw [if_neg c11] at H
                      exact absurd H (by simp)
                  · rw [if_neg c10] at H
                    exact absurd H (by simp)
                · rw [if_neg c9] at H
                  have c9b0 : decide (x21_2 < (x6_1.length : Int)) = false := decide_eq_false c9
                  clear c9
                  by_cases c14 : x6_1.length < 17592186044416
                  · rw [if_pos c14] at H
                    have LMc14 := Aside0.mk c14
                    clear c14
                    obtain ⟨y123, hy123⟩ : ∃ y_ : List Int, y_ = (x6_1 ++ [x16_1]) := ⟨_, rfl⟩
                    replace H : (bound_Greedy.l0 k2 a1 y123 ji6 (wrap64 (x16_1 + 1))) = some (r1, r2) := by first | (rw [hy123]; with_reducible exact H) | (have H2_ := (Option.bind_some _ _).symm.trans H; rw [hy123]; with_reducible exact H2_) | (have H2_ := (Option.bind_some _ _).symm.trans H; with_reducible exact H2_) | with_reducible exact H | (rw [hy123]; exact H) | exact H
                    have Ny123 := Aside0.mk hy123
                    clear hy123
                    have H' := Aside0.mk H
                    clear H
                    go_wp2_with (first | ((with_reducible refine gate_builtin (b := .append) (xs := #[.tmp 33, .tmp 35]) rfl ?_); at_builtin; refine Kd.R_append (Kd.int .i64) (w0 := w) w.heap.size rfl (.tmp 33) (.tmp 35) 29 3 (.int .i64 0) 8 rfl Try.underlying29 info3 rfl (by decide) (by omega) (.slice Ao8 x6_1.length co8) x6_1 x16_1 [.int .i64 x16_1] (fun _ => True) (fun _ => False) rfl rfl ?aP (fun _ hk => hk.elim) ?aF ?aO ?aB ?aS ?aL ?_; (case aP => exact rfl); (case aB => exact (by repeat (first | (with_reducible first | exact HB.out | apply below_alloc | apply pw_below_drewN | apply below_drew1) | exact HB.out))); (case aF => exact (fun _ _ => trivial)); (case aO => exact (by (with_reducible repeat (first | apply Kd.R_alloc | apply Kd.R_drewN | apply Kd.R_drew)); exact HO_6.out)); (case aS => exact (below_size (by repeat (first | (with_reducible first | exact HB.out | apply below_alloc | apply pw_below_drewN | apply below_drew1) | exact HB.out)))); (case aL => have := LMc14.out; omega); intro v124 w15 ho hb hg hat; rw [← Ny123.out] at ho; have n0_ := Aside0.mk (hb); have n1_ := Aside0.mk (ho); clear HB; clear HO_6; have HB := n0_; have HO125 := n1_; clear n0_ n1_; clear ho hb hg hat))
                    go_roundg k2
                    case measure => have := HK1.out; have := HK2.out; omega
                    case rel => exact ⟨(y123), (wrap64 (x16_1 + 1)), (by first | rfl | (simp; done) | (congr 2; (try unfold wrap64); omega) | (simp [*]; done)), H', ⟨by have := HK1.out; have := HK2.out; omega⟩, ⟨by (with_reducible repeat (first | apply Kd.R_alloc | apply Kd.R_drewN | apply Kd.R_drew)); exact HO125.out⟩, ⟨by repeat (first | (with_reducible first | exact HB.out | apply below_alloc | apply pw_below_drewN | apply below_drew1) | exact HB.out)⟩⟩
                  · rw [if_neg c14] at H
                    exact absurd H (by simp)
          · rw [if_neg c7] at H
            have c7b0 : decide (x16_1 < ji6) = false := decide_eq_false c7
            clear c7
            simp only [Option.some.injEq, Prod.mk.injEq] at H
            obtain ⟨rfl, rfl⟩ := H
            go_wp2
            (try simp only [Exit.noGoto_ret])
            go_ret2
            exact ⟨_, by first | rfl | (simp [errW_none, errW_some] <;> rfl) | (simp only [← hji6]; first | rfl | (simp [errW_none, errW_some] <;> rfl)) | (simp [*, errW_none, errW_some] <;> rfl), by (with_reducible repeat (first | apply Kd.R_alloc | apply Kd.R_drewN | apply Kd.R_drew)); exact HO_6.out, by repeat (first | (with_reducible first | exact HB.out | apply below_alloc | apply pw_below_drewN | apply below_drew1) | exact HB.out)⟩
    · rw [if_neg c5] at H
      exact absurd H (by simp)
  · replace c4 := Bool.eq_false_iff.mpr c4
    subst c4
    have H1 : (some (([] : List Int), 1)) = some (r1, r2) := by rw [if_neg (show ¬ (false = true) by decide)] at H; exact H
    clear H
    have H := H1
    clear H1
    simp only [Option.some.injEq, Prod.mk.injEq] at H
    obtain ⟨rfl, rfl⟩ := H
    go_enter Try.func94, Try.ntmps94
    go_wp2
    go_step3
    go_wp2_with (first | ((with_reducible refine gate_callee (f := 111) rfl ?_); refine goesL_ (some 12) rfl rfl Try.func111 (by kernel_rfl) rfl #[.int .i64 10, .int .i64 a0, .int .i64 a1] rfl (by (try simp only [List.map_toArray, List.map_cons, List.map_nil]); first | done | rfl | (simp only [List.length_drop, List.length_take]; rfl)) ?_; (with_reducible refine (bound_fine.calls 10 a0 a1 false _ A3.out).mono ?_); rintro e w' ⟨rfl, ⟨nd, rfl⟩⟩; refine ⟨_, rfl, ?_⟩))
    (try simp only [Exit.noGoto_ret])
    go_ret2
    exact ⟨_, by first | rfl | (simp [errW_none, errW_some] <;> rfl) | (simp [*, errW_none, errW_some] <;> rfl), by first | exact Kd.R_nil _ _ _ _ _ | exact Kd.N_nil _ _ _ _ _ | exact Kd.V_nil _ _ _ _ _ | exact Kd.Q_nil _ _ _ _ _ | exact Kd.S_nil _ _ _ _ _, by repeat (first | (with_reducible first | exact HB.out | apply below_alloc | apply pw_below_drewN | apply below_drew1) | exact HB.out)⟩

/-! ### plexuslaw23_greedy: function 46 -/
def plexuslaw23_greedy.f (k : Nat) (a0 : Int) (a1 : Int) : Option (List Int × Int) := (bound_Greedy.f k a0 a1).bind fun bt127 => (some (bt127.1, bt127.2))
theorem plexuslaw23_greedy.mono : ∀ a0 a1 k, LeO (plexuslaw23_greedy.f k a0 a1) (plexuslaw23_greedy.f (k + 1) a0 a1) := by
  intro a0 a1 k
  unfold plexuslaw23_greedy.f
  repeat' first
      | (with_reducible exact bound_Greedy.mono _ _ _)
      | (with_reducible exact LeO.refl _)
      | (with_reducible exact LeO.none _)
      | (with_reducible refine LeO.ite ?_ ?_)
      | (with_reducible refine LeO.bind ?_ (fun _ => ?_))
      | exact bound_Greedy.mono _ _ _
      | exact LeO.none _
      | refine LeO.ite ?_ ?_
      | refine LeO.bind ?_ (fun _ => ?_)
set_option maxHeartbeats 8000000 in
set_option maxRecDepth 100000 in
theorem plexuslaw23_greedy.calls (k : Nat) (a0 : Int) (a1 : Int) (r1 : List Int) (r2 : Int) (w : World) (h : plexuslaw23_greedy.f k a0 a1 = some (r1, r2)) :
    Calls Try.prog 46 #[.int .i64 a0, .int .i64 a1] w fun e w' => ∃ v0_ : Value, e = .returned (.agg #[v0_, .int .i64 r2]) ∧ Kd.R (Kd.int .i64) 3 w' w.heap.size (fun _ => True) v0_ r1 ∧ Below w.heap.size w w' := by
  have hu55 := Try.underlying55
  have HB := Aside0.mk (Below.refl w.heap.size w)
  have H : ((bound_Greedy.f k a0 a1).bind fun bt127 => (some (bt127.1, bt127.2))) = some (r1, r2) := h
  clear h
  replace H := Option.bind_eq_some_iff.mp H
  obtain ⟨⟨t127, t128⟩, A30, H⟩ := H
  replace H : (some (t127, t128)) = some (r1, r2) := H
  have A3 := Aside0.mk A30
  clear A30
  simp only [Option.some.injEq, Prod.mk.injEq] at H
  obtain ⟨rfl, rfl⟩ := H
  go_enter Try.func46, Try.ntmps46
  go_wp2_with (first | ((with_reducible refine gate_dst (N := 4) rfl ?_); refine box_event ?hg (N := 4) ?hd (cs := #[.slice none 0 0, .int .i64 0]) (t := 55) ?hr ?_; (case hd => rfl); (case hg => rfl); (case hr => first | (go_simp; done) | (go_simp; rfl)); intro gb126 hg w4 hbox hb; have n0_ := Aside0.mk (below_step (by repeat (first | (with_reducible first | exact HB.out | apply below_alloc | apply pw_below_drewN | apply below_drew1) | exact HB.out)) hb); have n1_ := Aside0.mk (hbox); have n2_ := Aside0.mk ((by rw [hg]; exact (below_size (by repeat (first | (with_reducible first | exact HB.out | apply below_alloc | apply pw_below_drewN | apply below_drew1) | exact HB.out))) : w.heap.size ≤ gb126)); have n3_ := Aside0.mk ((by rw [hg]; exact (below_size (by repeat (first | (with_reducible first | exact HB.out | apply below_alloc | apply pw_below_drewN | apply below_drew1) | exact HB.out))) : w.heap.size ≤ gb126)); clear HB; have HB := n0_; have BK126 := n1_; have GW126 := n2_; have GE126 := n3_; clear n0_ n1_ n2_ n3_; clear hb hbox hg) | ((with_reducible refine gate_callee (f := 94) rfl ?_); refine goesL_ (some 10) rfl rfl Try.func94 (by kernel_rfl) rfl #[.int .i64 a0, .int .i64 a1] rfl (by (try simp only [List.map_toArray, List.map_cons, List.map_nil]); first | done | rfl | (simp only [List.length_drop, List.length_take]; rfl)) ?_; (with_reducible refine (bound_Greedy.calls k a0 a1 t127 t128 _ A3.out).mono ?_); rintro e w5 ⟨v129, rfl, ho0, hb⟩; refine ⟨_, rfl, ?_⟩; have n0_ := Aside0.mk (Kd.R_lower ho0 (below_size (by repeat (first | (with_reducible first | exact HB.out | apply below_alloc | apply pw_below_drewN | apply below_drew1 | refine below_set ?_ GE126.out) | exact HB.out)))); have n1_ := Aside0.mk (blk_below (g := gb126) (o := .cells #[.slice none 0 0, .int .i64 0] 55 (0, 0)) (by (with_reducible repeat (first | refine blk_drewN ?_ _ | refine blk_drew ?_ | refine blk_alloc ?_ _)); exact BK126.out) hb); have n2_ := Aside0.mk (below_step (by repeat (first | (with_reducible first | exact HB.out | apply below_alloc | apply pw_below_drewN | apply below_drew1 | refine below_set ?_ GE126.out) | exact HB.out)) hb); clear BK126; clear HB; have HO130 := n0_; have BK126 := n1_; have HB := n2_; clear n0_ n1_ n2_; (try clear hb); (try clear hb2); (try clear hk); (try clear hi); (try clear ho0); obtain ⟨Ao6, co6, eo6⟩ := Kd.R_slice HO130.out; subst eo6; have hcz7_0 : w5.cell? ⟨gb126, 0, none⟩ = some (.slice none 0 0) := (blk_cell BK126.out 0).trans rfl; have hcz7_1 : w5.cell? ⟨gb126, 1, none⟩ = some (.int .i64 0) := (blk_cell BK126.out 1).trans rfl; have hfz7_0 := blk_frozen BK126.out 0; have hfz7_1 := blk_frozen BK126.out 1))
  refine bodyPost_ret (results_cell_row rfl _ _ gb126 55 #[.slice Ao6 t127.length co6, .int .i64 t128] (0, 0) _ rfl (by (with_reducible repeat (first | refine blk_drewN ?_ _ | refine blk_drew ?_ | refine blk_alloc ?_ _)); refine blk_put (cs := #[.slice Ao6 t127.length co6, .int .i64 0]) ?_ 1 _ rfl; (with_reducible repeat (first | refine blk_drewN ?_ _ | refine blk_drew ?_ | refine blk_alloc ?_ _)); refine blk_put (cs := #[.slice none 0 0, .int .i64 0]) ?_ 0 _ rfl; (with_reducible repeat (first | refine blk_drewN ?_ _ | refine blk_drew ?_ | refine blk_alloc ?_ _)); exact BK126.out) Try.underlying55 rfl (by kernel_rfl)) rfl ?_
  exact ⟨_, by first | rfl | (simp [errW_none, errW_some] <;> rfl) | (simp [*, errW_none, errW_some] <;> rfl), by (with_reducible repeat (first | apply Kd.R_alloc | apply Kd.R_drewN | apply Kd.R_drew)); exact Kd.R_mono (Kd.R_far (p := ⟨gb126, 1, none⟩) (Kd.R_far (p := ⟨gb126, 0, none⟩) (Kd.R_types HO130.out BK126.out (by decide)) (fun _ hk => hk.2) (.slice Ao6 t127.length co6)) (fun _ hk => hk.2) (.int .i64 t128)) (fun _ hk => trivial), by repeat (first | (with_reducible first | exact HB.out | apply below_alloc | apply pw_below_drewN | apply below_drew1 | refine below_set ?_ GE126.out) | exact HB.out)⟩

/-! ### plexuslaw23_same: function 48 -/
def plexuslaw23_same.l0 : Nat → List Int → List Int → Int → Option (Bool)
  | 0, _, _, _ => none
  | k + 1, x0, x1, x5 => if x5 < (x0.length : Int) then (if 0 ≤ x5 then (if x5 < (x1.length : Int) then (if (rd x0 x5) = (rd x1 x5) then (plexuslaw23_same.l0 k x0 x1 (wrap64 (x5 + 1))) else (some false)) else (none)) else (none)) else (some true)
def plexuslaw23_same.f (k : Nat) (l0 : List Int) (l1 : List Int) : Option (Bool) := if (l0.length : Int) = (l1.length : Int) then (plexuslaw23_same.l0 k l0 l1 0) else (some false)
theorem plexuslaw23_same.mono_l : ∀ k, (∀ y0 y1 y2, LeO (plexuslaw23_same.l0 k y0 y1 y2) (plexuslaw23_same.l0 (k + 1) y0 y1 y2))
  | 0 => fun _ _ _ r h => by simp [plexuslaw23_same.l0] at h
  | k + 1 => by
    have ih0 := plexuslaw23_same.mono_l k
    · intro y0 y1 y2
      unfold plexuslaw23_same.l0
      repeat' first
      | (with_reducible exact ih0 _ _ _)
      | (with_reducible exact LeO.refl _)
      | (with_reducible exact LeO.none _)
      | (with_reducible refine LeO.ite ?_ ?_)
      | (with_reducible refine LeO.bind ?_ (fun _ => ?_))
      | exact ih0 _ _ _
      | exact LeO.none _
      | refine LeO.ite ?_ ?_
      | refine LeO.bind ?_ (fun _ => ?_)
theorem plexuslaw23_same.mono : ∀ a0 a1 k, LeO (plexuslaw23_same.f k a0 a1) (plexuslaw23_same.f (k + 1) a0 a1) := by
  intro a0 a1 k
  have ih0 := plexuslaw23_same.mono_l k
  unfold plexuslaw23_same.f
  repeat' first
      | (with_reducible exact ih0 _ _ _)
      | (with_reducible exact LeO.refl _)
      | (with_reducible exact LeO.none _)
      | (with_reducible refine LeO.ite ?_ ?_)
      | (with_reducible refine LeO.bind ?_ (fun _ => ?_))
      | exact ih0 _ _ _
      | exact LeO.none _
      | refine LeO.ite ?_ ?_
      | refine LeO.bind ?_ (fun _ => ?_)
set_option maxHeartbeats 8000000 in
set_option maxRecDepth 100000 in
theorem plexuslaw23_same.calls (k : Nat) (A0 : Option Addr) (c0 : Nat) (l0 : List Int) (A1 : Option Addr) (c1 : Nat) (l1 : List Int) (r : Bool) (w : World) (hr0 : Kd.C (Kd.int .i64) w A0 l0.length l0) (hc0 : l0.length ≤ c0) (hr1 : Kd.C (Kd.int .i64) w A1 l1.length l1) (hc1 : l1.length ≤ c1) (h : plexuslaw23_same.f k l0 l1 = some r) :
    Calls Try.prog 48 #[.slice A0 l0.length c0, .slice A1 l1.length c1] w fun e w' => e = .returned (.bool r) ∧ Drawn0 w w' := by
  have HR0 := Aside0.mk hr0
  have HC0 := Aside0.mk hc0
  clear hr0 hc0
  have HR1 := Aside0.mk hr1
  have HC1 := Aside0.mk hc1
  clear hr1 hc1
  have H : (if (l0.length : Int) = (l1.length : Int) then (plexuslaw23_same.l0 k l0 l1 0) else (some false)) = some r := h
  clear h
  by_cases c3 : (l0.length : Int) = (l1.length : Int)
  · rw [if_pos c3] at H
    have c3b0 : ((l0.length : Int) == (l1.length : Int)) = true := beq_iff_eq.mpr c3
    have c3b1 : ((l0.length : Int) != (l1.length : Int)) = false := bne_eq_false_iff_eq.mpr c3
    have c3b2 : (l0.length == l1.length) = true := by first | simpa using c3 | (simp at c3 ⊢; omega)
    clear c3
    have H' := Aside0.mk H
    clear H
    go_enter Try.func48, Try.ntmps48
    go_wp2
    repeat (go_quiet (fail); try go_wp2)
    go_loopg [5] k (fun kq v5 w' => ∃ (x5_1 : Int), v5 = .int .i64 x5_1 ∧ Aside0 (plexuslaw23_same.l0 kq l0 l1 x5_1 = some r) ∧ Aside0 (kq ≤ k) ∧ Drawn0 w w')
    case atStart => exact ⟨(0), (by first | rfl | (simp; done) | (congr 2; (try unfold wrap64); omega) | (simp [*]; done)), H', ⟨Nat.le_refl _⟩, by repeat (first | exact Drawn0.refl _ | apply Drawn0.step)⟩
    case round =>
      clear H'
      try clear c1
      try clear p2
      try clear c3
      try clear c3b0
      try clear c3b1
      try clear c3b2
      obtain ⟨x5_1, rfl, HA, HK1, ⟨m1, rfl⟩⟩ := hrel
      cases gk with
      | zero => exact absurd HA.out (by simp [plexuslaw23_same.l0])
      | succ k1 =>
        have H := HA.out
        clear HA
        simp only [plexuslaw23_same.l0] at H
        by_cases c4 : x5_1 < (l0.length : Int)
        · rw [if_pos c4] at H
          have c4b0 : decide (x5_1 < (l0.length : Int)) = true := decide_eq_true c4
          clear c4
          by_cases c5 : 0 ≤ x5_1
          · rw [if_pos c5] at H
            have c5b0 : decide (0 ≤ x5_1) = true := decide_eq_true c5
            clear c5
            by_cases c6 : x5_1 < (l1.length : Int)
            · rw [if_pos c6] at H
              have c6b0 : decide (x5_1 < (l1.length : Int)) = true := decide_eq_true c6
              clear c6
              by_cases c7 : (rd l0 x5_1) = (rd l1 x5_1)
              · rw [if_pos c7] at H
                have c7b0 : ((rd l0 x5_1) == (rd l1 x5_1)) = true := beq_iff_eq.mpr c7
                have c7b1 : ((rd l0 x5_1) != (rd l1 x5_1)) = false := bne_eq_false_iff_eq.mpr c7
                clear c7
                have H' := Aside0.mk H
                clear H
                have p131 : 0 ≤ (x5_1 : Int) := of_decide_eq_true (by first | (with_reducible assumption) | assumption)
                have q131 : x5_1 < (l0.length : Int) := of_decide_eq_true (by first | (with_reducible assumption) | assumption)
                obtain ⟨ad131, e131, hx131_0⟩ := Kd.at_int HR0.out x5_1 p131 q131
                cases e131
                replace p131 := eq_true p131
                replace q131 := eq_true q131
                have p132 : 0 ≤ (x5_1 : Int) := of_decide_eq_true (by first | (with_reducible assumption) | assumption)
                have q132 : x5_1 < (l1.length : Int) := of_decide_eq_true (by first | (with_reducible assumption) | assumption)
                obtain ⟨ad132, e132, hx132_0⟩ := Kd.at_int HR1.out x5_1 p132 q132
                cases e132
                replace p132 := eq_true p132
                replace q132 := eq_true q132
                go_wp2
                repeat (go_quiet (fail); try go_wp2)
                go_roundg k1
                case measure => have := HK1.out; omega
                case rel => exact ⟨(wrap64 (x5_1 + 1)), (by first | rfl | (simp; done) | (congr 2; (try unfold wrap64); omega) | (simp [*]; done)), H', ⟨by have := HK1.out; omega⟩, by repeat (first | exact Drawn0.refl _ | apply Drawn0.step)⟩
              · rw [if_neg c7] at H
                have c7b0 : ((rd l0 x5_1) == (rd l1 x5_1)) = false := beq_eq_false_iff_ne.mpr c7
                have c7b1 : ((rd l0 x5_1) != (rd l1 x5_1)) = true := bne_iff_ne.mpr c7
                obtain rfl := Option.some.inj H
                have p131 : 0 ≤ (x5_1 : Int) := of_decide_eq_true (by first | (with_reducible assumption) | assumption)
                have q131 : x5_1 < (l0.length : Int) := of_decide_eq_true (by first | (with_reducible assumption) | assumption)
                obtain ⟨ad131, e131, hx131_0⟩ := Kd.at_int HR0.out x5_1 p131 q131
                cases e131
                replace p131 := eq_true p131
                replace q131 := eq_true q131
                have p132 : 0 ≤ (x5_1 : Int) := of_decide_eq_true (by first | (with_reducible assumption) | assumption)
                have q132 : x5_1 < (l1.length : Int) := of_decide_eq_true (by first | (with_reducible assumption) | assumption)
                obtain ⟨ad132, e132, hx132_0⟩ := Kd.at_int HR1.out x5_1 p132 q132
                cases e132
                replace p132 := eq_true p132
                replace q132 := eq_true q132
                go_wp2
                repeat (go_quiet (fail); try go_wp2)
                go_ret
                exact ⟨by first | rfl | (simp; done) | (simp [*]; done), by repeat (first | exact Drawn0.refl _ | apply Drawn0.step)⟩
            · rw [if_neg c6] at H
              exact absurd H (by simp)
          · rw [if_neg c5] at H
            exact absurd H (by simp)
        · rw [if_neg c4] at H
          have c4b0 : decide (x5_1 < (l0.length : Int)) = false := decide_eq_false c4
          clear c4
          obtain rfl := Option.some.inj H
          go_wp2
          repeat (go_quiet (fail); try go_wp2)
          go_ret
          exact ⟨by first | rfl | (simp; done) | (simp [*]; done), by repeat (first | exact Drawn0.refl _ | apply Drawn0.step)⟩
  · rw [if_neg c3] at H
    have c3b0 : ((l0.length : Int) == (l1.length : Int)) = false := beq_eq_false_iff_ne.mpr c3
    have c3b1 : ((l0.length : Int) != (l1.length : Int)) = true := bne_iff_ne.mpr c3
    have c3b2 : (l0.length == l1.length) = false := by first | simpa using c3 | (simp at c3 ⊢; omega)
    obtain rfl := Option.some.inj H
    go_enter Try.func48, Try.ntmps48
    go_wp2
    repeat (go_quiet (fail); try go_wp2)
    go_ret
    exact ⟨by first | rfl | (simp; done) | (simp [*]; done), by repeat (first | exact Drawn0.refl _ | apply Drawn0.step)⟩

/-! ### plexuslaw23_is: function 54 -/
def plexuslaw23_is.f (a0 : Int) : Option (Int × Int) := some (a0, 0)
set_option maxHeartbeats 8000000 in
set_option maxRecDepth 100000 in
theorem plexuslaw23_is.calls (a0 : Int) (r1 : Int) (r2 : Int) (w : World) (h : plexuslaw23_is.f a0 = some (r1, r2)) :
    Calls Try.prog 54 #[.int .i64 a0] w fun e w' => e = .returned (.agg #[.int .i64 r1, .int .i64 r2]) ∧ Below w.heap.size w w' := by
  have hu52 := Try.underlying52
  have HB := Aside0.mk (Below.refl w.heap.size w)
  have H : (some (a0, 0)) = some (r1, r2) := h
  clear h
  simp only [Option.some.injEq, Prod.mk.injEq] at H
  obtain ⟨rfl, rfl⟩ := H
  go_enter Try.func54, Try.ntmps54
  go_wp2_with (first | ((with_reducible refine gate_dst (N := 2) rfl ?_); refine box_event ?hg (N := 2) ?hd (cs := #[.int .i64 0, .int .i64 0]) (t := 52) ?hr ?_; (case hd => rfl); (case hg => rfl); (case hr => first | (go_simp; done) | (go_simp; rfl)); intro gb133 hg w2 hbox hb; have n0_ := Aside0.mk (below_step (by repeat (first | (with_reducible first | exact HB.out | apply below_alloc | apply pw_below_drewN | apply below_drew1) | exact HB.out)) hb); have n1_ := Aside0.mk (hbox); have n2_ := Aside0.mk ((by rw [hg]; exact (below_size (by repeat (first | (with_reducible first | exact HB.out | apply below_alloc | apply pw_below_drewN | apply below_drew1) | exact HB.out))) : w.heap.size ≤ gb133)); have n3_ := Aside0.mk ((by rw [hg]; exact (below_size (by repeat (first | (with_reducible first | exact HB.out | apply below_alloc | apply pw_below_drewN | apply below_drew1) | exact HB.out))) : w.heap.size ≤ gb133)); clear HB; have HB := n0_; have BK133 := n1_; have GW133 := n2_; have GE133 := n3_; clear n0_ n1_ n2_ n3_; clear hb hbox hg; have hcz3_0 : w2.cell? ⟨gb133, 0, none⟩ = some (.int .i64 0) := (blk_cell BK133.out 0).trans rfl; have hcz3_1 : w2.cell? ⟨gb133, 1, none⟩ = some (.int .i64 0) := (blk_cell BK133.out 1).trans rfl; have hfz3_0 := blk_frozen BK133.out 0; have hfz3_1 := blk_frozen BK133.out 1))
  refine bodyPost_ret (results_cell_row rfl _ _ gb133 52 #[.int .i64 a0, .int .i64 0] (0, 0) _ rfl (by (with_reducible repeat (first | refine blk_drewN ?_ _ | refine blk_drew ?_ | refine blk_alloc ?_ _)); refine blk_put (cs := #[.int .i64 a0, .int .i64 0]) ?_ 1 _ rfl; (with_reducible repeat (first | refine blk_drewN ?_ _ | refine blk_drew ?_ | refine blk_alloc ?_ _)); refine blk_put (cs := #[.int .i64 0, .int .i64 0]) ?_ 0 _ rfl; (with_reducible repeat (first | refine blk_drewN ?_ _ | refine blk_drew ?_ | refine blk_alloc ?_ _)); exact BK133.out) Try.underlying52 rfl (by kernel_rfl)) rfl ?_
  exact ⟨by first | rfl | (simp [errW_none, errW_some] <;> rfl) | (simp [*, errW_none, errW_some] <;> rfl), by repeat (first | (with_reducible first | exact HB.out | apply below_alloc | apply pw_below_drewN | apply below_drew1 | refine below_set ?_ GE133.out) | exact HB.out)⟩

/-! ### plexuslaw23_examples: function 35 -/
def plexuslaw23_examples.f (k : Nat)  : Option (Bool) := (plexuslaw23_sphere.f k 7 3).bind fun bt134 => ((plexuslaw23_is.f 16).bind fun bt136 => (if (!(bt134.1 == bt136.1) || (!(bt134.2 == bt136.2))) = true then (none) else ((plexuslaw23_sphere.f k 5 3).bind fun bt138 => ((plexuslaw23_is.f 5).bind fun bt140 => (if (!(bt138.1 == bt140.1) || (!(bt138.2 == bt140.2))) = true then (none) else ((plexuslaw23_singleton.f 5 3).bind fun bt142 => ((plexuslaw23_is.f 8).bind fun bt144 => (if (!(bt142.1 == bt144.1) || (!(bt142.2 == bt144.2))) = true then (none) else ((plexuslaw23_plotkin.f k 5 3).bind fun bt146 => ((plexuslaw23_is.f 4).bind fun bt148 => (if (!(bt146.1 == bt148.1) || (!(bt146.2 == bt148.2))) = true then (none) else ((plexuslaw23_plotkin.f k 8 4).bind fun bt150 => ((plexuslaw23_is.f 16).bind fun bt152 => (if (!(bt150.1 == bt152.1) || (!(bt150.2 == bt152.2))) = true then (none) else ((plexuslaw23_plotkin.f k 6 4).bind fun bt154 => ((plexuslaw23_is.f 4).bind fun bt156 => (if (!(bt154.1 == bt156.1) || (!(bt154.2 == bt156.2))) = true then (none) else ((plexuslaw23_plotkin.f k 9 4).bind fun bt158 => (if bt158.2 = 4 then ((plexuslaw23_best.f k 5 3).bind fun bt160 => ((plexuslaw23_is.f 4).bind fun bt162 => (if (!(bt160.1 == bt162.1) || (!(bt160.2 == bt162.2))) = true then (none) else ((plexuslaw23_best.f k 6 3).bind fun bt164 => ((plexuslaw23_is.f 8).bind fun bt166 => (if (!(bt164.1 == bt166.1) || (!(bt164.2 == bt166.2))) = true then (none) else ((plexuslaw23_best.f k 7 3).bind fun bt168 => ((plexuslaw23_is.f 16).bind fun bt170 => (if (!(bt168.1 == bt170.1) || (!(bt168.2 == bt170.2))) = true then (none) else ((plexuslaw23_griesmer.f k 4 3).bind fun bt172 => ((plexuslaw23_is.f 7).bind fun bt174 => (if (!(bt172.1 == bt174.1) || (!(bt172.2 == bt174.2))) = true then (none) else ((plexuslaw23_griesmer.f k 3 4).bind fun bt176 => ((plexuslaw23_is.f 7).bind fun bt178 => (if (!(bt176.1 == bt178.1) || (!(bt176.2 == bt178.2))) = true then (none) else ((plexuslaw23_best.f k 3 4).bind fun bt180 => (if bt180.2 = 1 then ((plexuslaw23_griesmer.f k 0 1).bind fun bt182 => (if bt182.2 = 1 then ((plexuslaw23_greedy.f k 5 3).bind fun bt184 => (if bt184.2 = 0 then ((plexuslaw23_same.f k bt184.1 (([0, 7, 25, 30] : List Int))).bind fun t192 => (if t192 = true then ((plexuslaw23_greedy.f k 11 3).bind fun bt193 => (some (bt193.2 == 1))) else (none))) else (none))) else (none))) else (none)))))))))))))))))) else (none))))))))))))))))))))
theorem plexuslaw23_examples.mono : ∀ k, LeO (plexuslaw23_examples.f k ) (plexuslaw23_examples.f (k + 1) ) := by
  intro  k
  unfold plexuslaw23_examples.f
  repeat' first
      | (with_reducible exact plexuslaw23_best.mono _ _ _)
      | (with_reducible exact plexuslaw23_greedy.mono _ _ _)
      | (with_reducible exact plexuslaw23_griesmer.mono _ _ _)
      | (with_reducible exact plexuslaw23_plotkin.mono _ _ _)
      | (with_reducible exact plexuslaw23_same.mono _ _ _)
      | (with_reducible exact plexuslaw23_sphere.mono _ _ _)
      | (with_reducible exact LeO.refl _)
      | (with_reducible exact LeO.none _)
      | (with_reducible refine LeO.ite ?_ ?_)
      | (with_reducible refine LeO.bind ?_ (fun _ => ?_))
      | exact plexuslaw23_best.mono _ _ _
      | exact plexuslaw23_greedy.mono _ _ _
      | exact plexuslaw23_griesmer.mono _ _ _
      | exact plexuslaw23_plotkin.mono _ _ _
      | exact plexuslaw23_same.mono _ _ _
      | exact plexuslaw23_sphere.mono _ _ _
      | exact LeO.none _
      | refine LeO.ite ?_ ?_
      | refine LeO.bind ?_ (fun _ => ?_)
set_option maxHeartbeats 8000000 in
set_option maxRecDepth 100000 in
theorem plexuslaw23_examples.calls (k : Nat)  (r : Bool) (w : World) (h : plexuslaw23_examples.f k  = some r) :
    Calls Try.prog 35 #[] w fun e w' => e = .returned (.bool r) ∧ Below w.heap.size w w' := by
  have hu55 := Try.underlying55
  have hfd52_1 : ∀ (z0_ z1_ : Value) (W_ : World), Sem.run Try.prog (Instr.field 52 (.agg #[z0_, z1_]) 1) W_ = .ok z1_ W_ := fun _ _ _ => by kernel_rfl
  have hfd55_1 : ∀ (z0_ z1_ : Value) (W_ : World), Sem.run Try.prog (Instr.field 55 (.agg #[z0_, z1_]) 1) W_ = .ok z1_ W_ := fun _ _ _ => by kernel_rfl
  have HB := Aside0.mk (Below.refl w.heap.size w)
  have H : ((plexuslaw23_sphere.f k 7 3).bind fun bt134 => ((plexuslaw23_is.f 16).bind fun bt136 => (if (!(bt134.1 == bt136.1) || (!(bt134.2 == bt136.2))) = true then (none) else ((plexuslaw23_sphere.f k 5 3).bind fun bt138 => ((plexuslaw23_is.f 5).bind fun bt140 => (if (!(bt138.1 == bt140.1) || (!(bt138.2 == bt140.2))) = true then (none) else ((plexuslaw23_singleton.f 5 3).bind fun bt142 => ((plexuslaw23_is.f 8).bind fun bt144 => (if (!(bt142.1 == bt144.1) || (!(bt142.2 == bt144.2))) = true then (none) else ((plexuslaw23_plotkin.f k 5 3).bind fun bt146 => ((plexuslaw23_is.f 4).bind fun bt148 => (if (!(bt146.1 == bt148.1) || (!(bt146.2 == bt148.2))) = true then (none) else ((plexuslaw23_plotkin.f k 8 4).bind fun bt150 => ((plexuslaw23_is.f 16).bind fun bt152 => (if (!(bt150.1 == bt152.1) || (!(bt150.2 == bt152.2))) = true then (none) else ((plexuslaw23_plotkin.f k 6 4).bind fun bt154 => ((plexuslaw23_is.f 4).bind fun bt156 => (if (!(bt154.1 == bt156.1) || (!(bt154.2 == bt156.2))) = true then (none) else ((plexuslaw23_plotkin.f k 9 4).bind fun bt158 => (if bt158.2 = 4 then ((plexuslaw23_best.f k 5 3).bind fun bt160 => ((plexuslaw23_is.f 4).bind fun bt162 => (if (!(bt160.1 == bt162.1) || (!(bt160.2 == bt162.2))) = true then (none) else ((plexuslaw23_best.f k 6 3).bind fun bt164 => ((plexuslaw23_is.f 8).bind fun bt166 => (if (!(bt164.1 == bt166.1) || (!(bt164.2 == bt166.2))) = true then (none) else ((plexuslaw23_best.f k 7 3).bind fun bt168 => ((plexuslaw23_is.f 16).bind fun bt170 => (if (!(bt168.1 == bt170.1) || (!(bt168.2 == bt170.2))) = true then (none) else ((plexuslaw23_griesmer.f k 4 3).bind fun bt172 => ((plexuslaw23_is.f 7).bind fun bt174 => (if (!(bt172.1 == bt174.1) || (!(bt172.2 == bt174.2))) = true then (none) else ((plexuslaw23_griesmer.f k 3 4).bind fun bt176 => ((plexuslaw23_is.f 7).bind fun bt178 => (if (!(bt176.1 == bt178.1) || (!(bt176.2 == bt178.2))) = true then (none) else ((plexuslaw23_best.f k 3 4).bind fun bt180 => (if bt180.2 = 1 then ((plexuslaw23_griesmer.f k 0 1).bind fun bt182 => (if bt182.2 = 1 then ((plexuslaw23_greedy.f k 5 3).bind fun bt184 => (if bt184.2 = 0 then ((plexuslaw23_same.f k bt184.1 (([0, 7, 25, 30] : List Int))).bind fun t192 => (if t192 = true then ((plexuslaw23_greedy.f k 11 3).bind fun bt193 => (some (bt193.2 == 1))) else (none))) else (none))) else (none))) else (none)))))))))))))))))) else (none))))))))))))))))))))) = some r := h
  clear h
  replace H := Option.bind_eq_some_iff.mp H
  obtain ⟨⟨t134, t135⟩, A10, H⟩ := H
  replace H : ((plexuslaw23_is.f 16).bind fun bt136 => (if (!(t134 == bt136.1) || (!(t135 == bt136.2))) = true then (none) else ((plexuslaw23_sphere.f k 5 3).bind fun bt138 => ((plexuslaw23_is.f 5).bind fun bt140 => (if (!(bt138.1 == bt140.1) || (!(bt138.2 == bt140.2))) = true then (none) else ((plexuslaw23_singleton.f 5 3).bind fun bt142 => ((plexuslaw23_is.f 8).bind fun bt144 => (if (!(bt142.1 == bt144.1) || (!(bt142.2 == bt144.2))) = true then (none) else ((plexuslaw23_plotkin.f k 5 3).bind fun bt146 => ((plexuslaw23_is.f 4).bind fun bt148 => (if (!(bt146.1 == bt148.1) || (!(bt146.2 == bt148.2))) = true then (none) else ((plexuslaw23_plotkin.f k 8 4).bind fun bt150 => ((plexuslaw23_is.f 16).bind fun bt152 => (if (!(bt150.1 == bt152.1) || (!(bt150.2 == bt152.2))) = true then (none) else ((plexuslaw23_plotkin.f k 6 4).bind fun bt154 => ((plexuslaw23_is.f 4).bind fun bt156 => (if (!(bt154.1 == bt156.1) || (!(bt154.2 == bt156.2))) = true then (none) else ((plexuslaw23_plotkin.f k 9 4).bind fun bt158 => (if bt158.2 = 4 then ((plexuslaw23_best.f k 5 3).bind fun bt160 => ((plexuslaw23_is.f 4).bind fun bt162 => (if (!(bt160.1 == bt162.1) || (!(bt160.2 == bt162.2))) = true then (none) else ((plexuslaw23_best.f k 6 3).bind fun bt164 => ((plexuslaw23_is.f 8).bind fun bt166 => (if (!(bt164.1 == bt166.1) || (!(bt164.2 == bt166.2))) = true then (none) else ((plexuslaw23_best.f k 7 3).bind fun bt168 => ((plexuslaw23_is.f 16).bind fun bt170 => (if (!(bt168.1 == bt170.1) || (!(bt168.2 == bt170.2))) = true then (none) else ((plexuslaw23_griesmer.f k 4 3).bind fun bt172 => ((plexuslaw23_is.f 7).bind fun bt174 => (if (!(bt172.1 == bt174.1) || (!(bt172.2 == bt174.2))) = true then (none) else ((plexuslaw23_griesmer.f k 3 4).bind fun bt176 => ((plexuslaw23_is.f 7).bind fun bt178 => (if (!(bt176.1 == bt178.1) || (!(bt176.2 == bt178.2))) = true then (none) else ((plexuslaw23_best.f k 3 4).bind fun bt180 => (if bt180.2 = 1 then ((plexuslaw23_griesmer.f k 0 1).bind fun bt182 => (if bt182.2 = 1 then ((plexuslaw23_greedy.f k 5 3).bind fun bt184 => (if bt184.2 = 0 then ((plexuslaw23_same.f k bt184.1 (([0, 7, 25, 30] : List Int))).bind fun t192 => (if t192 = true then ((plexuslaw23_greedy.f k 11 3).bind fun bt193 => (some (bt193.2 == 1))) else (none))) else (none))) else (none))) else (none)))))))))))))))))) else (none)))))))))))))))))))) = some r := H
  have A1 := Aside0.mk A10
  clear A10
  replace H := Option.bind_eq_some_iff.mp H
  obtain ⟨⟨t136, t137⟩, A20, H⟩ := H
  replace H : (if (!(t134 == t136) || (!(t135 == t137))) = true then (none) else ((plexuslaw23_sphere.f k 5 3).bind fun bt138 => ((plexuslaw23_is.f 5).bind fun bt140 => (if (!(bt138.1 == bt140.1) || (!(bt138.2 == bt140.2))) = true then (none) else ((plexuslaw23_singleton.f 5 3).bind fun bt142 => ((plexuslaw23_is.f 8).bind fun bt144 => (if (!(bt142.1 == bt144.1) || (!(bt142.2 == bt144.2))) = true then (none) else ((plexuslaw23_plotkin.f k 5 3).bind fun bt146 => ((plexuslaw23_is.f 4).bind fun bt148 => (if (!(bt146.1 == bt148.1) || (!(bt146.2 == bt148.2))) = true then (none) else ((plexuslaw23_plotkin.f k 8 4).bind fun bt150 => ((plexuslaw23_is.f 16).bind fun bt152 => (if (!(bt150.1 == bt152.1) || (!(bt150.2 == bt152.2))) = true then (none) else ((plexuslaw23_plotkin.f k 6 4).bind fun bt154 => ((plexuslaw23_is.f 4).bind fun bt156 => (if (!(bt154.1 == bt156.1) || (!(bt154.2 == bt156.2))) = true then (none) else ((plexuslaw23_plotkin.f k 9 4).bind fun bt158 => (if bt158.2 = 4 then ((plexuslaw23_best.f k 5 3).bind fun bt160 => ((plexuslaw23_is.f 4).bind fun bt162 => (if (!(bt160.1 == bt162.1) || (!(bt160.2 == bt162.2))) = true then (none) else ((plexuslaw23_best.f k 6 3).bind fun bt164 => ((plexuslaw23_is.f 8).bind fun bt166 => (if (!(bt164.1 == bt166.1) || (!(bt164.2 == bt166.2))) = true then (none) else ((plexuslaw23_best.f k 7 3).bind fun bt168 => ((plexuslaw23_is.f 16).bind fun bt170 => (if (!(bt168.1 == bt170.1) || (!(bt168.2 == bt170.2))) = true then (none) else ((plexuslaw23_griesmer.f k 4 3).bind fun bt172 => ((plexuslaw23_is.f 7).bind fun bt174 => (if (!(bt172.1 == bt174.1) || (!(bt172.2 == bt174.2))) = true then (none) else ((plexuslaw23_griesmer.f k 3 4).bind fun bt176 => ((plexuslaw23_is.f 7).bind fun bt178 => (if (!(bt176.1 == bt178.1) || (!(bt176.2 == bt178.2))) = true then (none) else ((plexuslaw23_best.f k 3 4).bind fun bt180 => (if bt180.2 = 1 then ((plexuslaw23_griesmer.f k 0 1).bind fun bt182 => (if bt182.2 = 1 then ((plexuslaw23_greedy.f k 5 3).bind fun bt184 => (if bt184.2 = 0 then ((plexuslaw23_same.f k bt184.1 (([0, 7, 25, 30] : List Int))).bind fun t192 => (if t192 = true then ((plexuslaw23_greedy.f k 11 3).bind fun bt193 => (some (bt193.2 == 1))) else (none))) else (none))) else (none))) else (none)))))))))))))))))) else (none))))))))))))))))))) = some r := H
  have A2 := Aside0.mk A20
  clear A20
  by_cases c3 : (!(t134 == t136) || (!(t135 == t137))) = true
  · rw [if_pos c3] at H
    exact absurd H (by simp)
  · rw [if_neg c3] at H
    have c3b0 : (!(t134 == t136) || (!(t135 == t137))) = false := by simpa using c3
    clear c3
    replace H := Option.bind_eq_some_iff.mp H
    obtain ⟨⟨t138, t139⟩, A40, H⟩ := H
    replace H : ((plexuslaw23_is.f 5).bind fun bt140 => (if (!(t138 == bt140.1) || (!(t139 == bt140.2))) = true then (none) else ((plexuslaw23_singleton.f 5 3).bind fun bt142 => ((plexuslaw23_is.f 8).bind fun bt144 => (if (!(bt142.1 == bt144.1) || (!(bt142.2 == bt144.2))) = true then (none) else ((plexuslaw23_plotkin.f k 5 3).bind fun bt146 => ((plexuslaw23_is.f 4).bind fun bt148 => (if (!(bt146.1 == bt148.1) || (!(bt146.2 == bt148.2))) = true then (none) else ((plexuslaw23_plotkin.f k 8 4).bind fun bt150 => ((plexuslaw23_is.f 16).bind fun bt152 => (if (!(bt150.1 == bt152.1) || (!(bt150.2 == bt152.2))) = true then (none) else ((plexuslaw23_plotkin.f k 6 4).bind fun bt154 => ((plexuslaw23_is.f 4).bind fun bt156 => (if (!(bt154.1 == bt156.1) || (!(bt154.2 == bt156.2))) = true then (none) else ((plexuslaw23_plotkin.f k 9 4).bind fun bt158 => (if bt158.2 = 4 then ((plexuslaw23_best.f k 5 3).bind fun bt160 => ((plexuslaw23_is.f 4).bind fun bt162 => (if (!(bt160.1 == bt162.1) || (!(bt160.2 == bt162.2))) = true then (none) else ((plexuslaw23_best.f k 6 3).bind fun bt164 => ((plexuslaw23_is.f 8).bind fun bt166 => (if (!(bt164.1 == bt166.1) || (!(bt164.2 == bt166.2))) = true then (none) else ((plexuslaw23_best.f k 7 3).bind fun bt168 => ((plexuslaw23_is.f 16).bind fun bt170 => (if (!(bt168.1 == bt170.1) || (!(bt168.2 == bt170.2))) = true then (none) else ((plexuslaw23_griesmer.f k 4 3).bind fun bt172 => ((plexuslaw23_is.f 7).bind fun bt174 => (if (!(bt172.1 == bt174.1) || (!(bt172.2 == bt174.2))) = true then (none) else ((plexuslaw23_griesmer.f k 3 4).bind fun bt176 => ((plexuslaw23_is.f 7).bind fun bt178 => (if (!(bt176.1 == bt178.1) || (!(bt176.2 == bt178.2))) = true then (none) else ((plexuslaw23_best.f k 3 4).bind fun bt180 => (if bt180.2 = 1 then ((plexuslaw23_griesmer.f k 0 1).bind fun bt182 => (if bt182.2 = 1 then ((plexuslaw23_greedy.f k 5 3).bind fun bt184 => (if bt184.2 = 0 then ((plexuslaw23_same.f k bt184.1 (([0, 7, 25, 30] : List Int))).bind fun t192 => (if t192 = true then ((plexuslaw23_greedy.f k 11 3).bind fun bt193 => (some (bt193.2 == 1))) else (none))) else (none))) else (none))) else (none)))))))))))))))))) else (none))))))))))))))))) = some r := H
    have A4 := Aside0.mk A40
    clear A40
    replace H := Option.bind_eq_some_iff.mp H
    obtain ⟨⟨t140, t141⟩, A50, H⟩ := H
    replace H : (if (!(t138 == t140) || (!(t139 == t141))) = true then (none) else ((plexuslaw23_singleton.f 5 3).bind fun bt142 => ((plexuslaw23_is.f 8).bind fun bt144 => (if (!(bt142.1 == bt144.1) || (!(bt142.2 == bt144.2))) = true then (none) else ((plexuslaw23_plotkin.f k 5 3).bind fun bt146 => ((plexuslaw23_is.f 4).bind fun bt148 => (if (!(bt146.1 == bt148.1) || (!(bt146.2 == bt148.2))) = true then (none) else ((plexuslaw23_plotkin.f k 8 4).bind fun bt150 => ((plexuslaw23_is.f 16).bind fun bt152 => (if (!(bt150.1 == bt152.1) || (!(bt150.2 == bt152.2))) = true then (none) else ((plexuslaw23_plotkin.f k 6 4).bind fun bt154 => ((plexuslaw23_is.f 4).bind fun bt156 => (if (!(bt154.1 == bt156.1) || (!(bt154.2 == bt156.2))) = true then (none) else ((plexuslaw23_plotkin.f k 9 4).bind fun bt158 => (if bt158.2 = 4 then ((plexuslaw23_best.f k 5 3).bind fun bt160 => ((plexuslaw23_is.f 4).bind fun bt162 => (if (!(bt160.1 == bt162.1) || (!(bt160.2 == bt162.2))) = true then (none) else ((plexuslaw23_best.f k 6 3).bind fun bt164 => ((plexuslaw23_is.f 8).bind fun bt166 => (if (!(bt164.1 == bt166.1) || (!(bt164.2 == bt166.2))) = true then (none) else ((plexuslaw23_best.f k 7 3).bind fun bt168 => ((plexuslaw23_is.f 16).bind fun bt170 => (if (!(bt168.1 == bt170.1) || (!(bt168.2 == bt170.2))) = true then (none) else ((plexuslaw23_griesmer.f k 4 3).bind fun bt172 => ((plexuslaw23_is.f 7).bind fun bt174 => (if (!(bt172.1 == bt174.1) || (!(bt172.2 == bt174.2))) = true then (none) else ((plexuslaw23_griesmer.f k 3 4).bind fun bt176 => ((plexuslaw23_is.f 7).bind fun bt178 => (if (!(bt176.1 == bt178.1) || (!(bt176.2 == bt178.2))) = true then (none) else ((plexuslaw23_best.f k 3 4).bind fun bt180 => (if bt180.2 = 1 then ((plexuslaw23_griesmer.f k 0 1).bind fun bt182 => (if bt182.2 = 1 then ((plexuslaw23_greedy.f k 5 3).bind fun bt184 => (if bt184.2 = 0 then ((plexuslaw23_same.f k bt184.1 (([0, 7, 25, 30] : List Int))).bind fun t192 => (if t192 = true then ((plexuslaw23_greedy.f k 11 3).bind fun bt193 => (some (bt193.2 == 1))) else (none))) else (none))) else (none))) else (none)))))))))))))))))) else (none)))))))))))))))) = some r := H
    have A5 := Aside0.mk A50
    clear A50
    by_cases c6 : (!(t138 == t140) || (!(t139 == t141))) = true
    · rw [if_pos c6] at H
      exact absurd H (by simp)
    · rw [if_neg c6] at H
      have c6b0 : (!(t138 == t140) || (!(t139 == t141))) = false := by simpa using c6
      clear c6
      replace H := Option.bind_eq_some_iff.mp H
      obtain ⟨⟨t142, t143⟩, A70, H⟩ := H
      replace H : ((plexuslaw23_is.f 8).bind fun bt144 => (if (!(t142 == bt144.1) || (!(t143 == bt144.2))) = true then (none) else ((plexuslaw23_plotkin.f k 5 3).bind fun bt146 => ((plexuslaw23_is.f 4).bind fun bt148 => (if (!(bt146.1 == bt148.1) || (!(bt146.2 == bt148.2))) = true then (none) else ((plexuslaw23_plotkin.f k 8 4).bind fun bt150 => ((plexuslaw23_is.f 16).bind fun bt152 => (if (!(bt150.1 == bt152.1) || (!(bt150.2 == bt152.2))) = true then (none) else ((plexuslaw23_plotkin.f k 6 4).bind fun bt154 => ((plexuslaw23_is.f 4).bind fun bt156 => (if (!(bt154.1 == bt156.1) || (!(bt154.2 == bt156.2))) = true then (none) else ((plexuslaw23_plotkin.f k 9 4).bind fun bt158 => (if bt158.2 = 4 then ((plexuslaw23_best.f k 5 3).bind fun bt160 => ((plexuslaw23_is.f 4).bind fun bt162 => (if (!(bt160.1 == bt162.1) || (!(bt160.2 == bt162.2))) = true then (none) else ((plexuslaw23_best.f k 6 3).bind fun bt164 => ((plexuslaw23_is.f 8).bind fun bt166 => (if (!(bt164.1 == bt166.1) || (!(bt164.2 == bt166.2))) = true then (none) else ((plexuslaw23_best.f k 7 3).bind fun bt168 => ((plexuslaw23_is.f 16).bind fun bt170 => (if (!(bt168.1 == bt170.1) || (!(bt168.2 == bt170.2))) = true then (none) else ((plexuslaw23_griesmer.f k 4 3).bind fun bt172 => ((plexuslaw23_is.f 7).bind fun bt174 => (if (!(bt172.1 == bt174.1) || (!(bt172.2 == bt174.2))) = true then (none) else ((plexuslaw23_griesmer.f k 3 4).bind fun bt176 => ((plexuslaw23_is.f 7).bind fun bt178 => (if (!(bt176.1 == bt178.1) || (!(bt176.2 == bt178.2))) = true then (none) else ((plexuslaw23_best.f k 3 4).bind fun bt180 => (if bt180.2 = 1 then ((plexuslaw23_griesmer.f k 0 1).bind fun bt182 => (if bt182.2 = 1 then ((plexuslaw23_greedy.f k 5 3).bind fun bt184 => (if bt184.2 = 0 then ((plexuslaw23_same.f k bt184.1 (([0, 7, 25, 30] : List Int))).bind fun t192 => (if t192 = true then ((plexuslaw23_greedy.f k 11 3).bind fun bt193 => (some (bt193.2 == 1))) else (none))) else (none))) else (none))) else (none)))))))))))))))))) else (none)))))))))))))) = some r := H
      have A7 := Aside0.mk A70
      clear A70
      replace H := Option.bind_eq_some_iff.mp H
      obtain ⟨⟨t144, t145⟩, A80, H⟩ := H
      replace H : (if (!(t142 == t144) || (!(t143 == t145))) = true then (none) else ((plexuslaw23_plotkin.f k 5 3).bind fun bt146 => ((plexuslaw23_is.f 4).bind fun bt148 => (if (!(bt146.1 == bt148.1) || (!(bt146.2 == bt148.2))) = true then (none) else ((plexuslaw23_plotkin.f k 8 4).bind fun bt150 => ((plexuslaw23_is.f 16).bind fun bt152 => (if (!(bt150.1 == bt152.1) || (!(bt150.2 == bt152.2))) = true then (none) else ((plexuslaw23_plotkin.f k 6 4).bind fun bt154 => ((plexuslaw23_is.f 4).bind fun bt156 => (if (!(bt154.1 == bt156.1) || (!(bt154.2 == bt156.2))) = true then (none) else ((plexuslaw23_plotkin.f k 9 4).bind fun bt158 => (if bt158.2 = 4 then ((plexuslaw23_best.f k 5 3).bind fun bt160 => ((plexuslaw23_is.f 4).bind fun bt162 => (if (!(bt160.1 == bt162.1) || (!(bt160.2 == bt162.2))) = true then (none) else ((plexuslaw23_best.f k 6 3).bind fun bt164 => ((plexuslaw23_is.f 8).bind fun bt166 => (if (!(bt164.1 == bt166.1) || (!(bt164.2 == bt166.2))) = true then (none) else ((plexuslaw23_best.f k 7 3).bind fun bt168 => ((plexuslaw23_is.f 16).bind fun bt170 => (if (!(bt168.1 == bt170.1) || (!(bt168.2 == bt170.2))) = true then (none) else ((plexuslaw23_griesmer.f k 4 3).bind fun bt172 => ((plexuslaw23_is.f 7).bind fun bt174 => (if (!(bt172.1 == bt174.1) || (!(bt172.2 == bt174.2))) = true then (none) else ((plexuslaw23_griesmer.f k 3 4).bind fun bt176 => ((plexuslaw23_is.f 7).bind fun bt178 => (if (!(bt176.1 == bt178.1) || (!(bt176.2 == bt178.2))) = true then (none) else ((plexuslaw23_best.f k 3 4).bind fun bt180 => (if bt180.2 = 1 then ((plexuslaw23_griesmer.f k 0 1).bind fun bt182 => (if bt182.2 = 1 then ((plexuslaw23_greedy.f k 5 3).bind fun bt184 => (if bt184.2 = 0 then ((plexuslaw23_same.f k bt184.1 (([0, 7, 25, 30] : List Int))).bind fun t192 => (if t192 = true then ((plexuslaw23_greedy.f k 11 3).bind fun bt193 => (some (bt193.2 == 1))) else (none))) else (none))) else (none))) else (none)))))))))))))))))) else (none))))))))))))) = some r := H
      have A8 := Aside0.mk A80
      clear A80
      by_cases c9 : (!(t142 == t144) || (!(t143 == t145))) = true
      · rw [if_pos c9] at H
        exact absurd H (by simp)
      · rw [if_neg c9] at H
        have c9b0 : (!(t142 == t144) || (!(t143 == t145))) = false := by simpa using c9
        clear c9
        replace H := Option.bind_eq_some_iff.mp H
        obtain ⟨⟨t146, t147⟩, A100, H⟩ := H
        replace H : ((plexuslaw23_is.f 4).bind fun bt148 => (if (!(t146 == bt148.1) || (!(t147 == bt148.2))) = true then (none) else ((plexuslaw23_plotkin.f k 8 4).bind fun bt150 => ((plexuslaw23_is.f 16).bind fun bt152 => (if (!(bt150.1 == bt152.1) || (!(bt150.2 == bt152.2))) = true then (none) else ((plexuslaw23_plotkin.f k 6 4).bind fun bt154 => ((plexuslaw23_is.f 4).bind fun bt156 => (if (!(bt154.1 == bt156.1) || (!(bt154.2 == bt156.2))) = true then (none) else ((plexuslaw23_plotkin.f k 9 4).bind fun bt158 => (if bt158.2 = 4 then ((plexuslaw23_best.f k 5 3).bind fun bt160 => ((plexuslaw23_is.f 4).bind fun bt162 => (if (!(bt160.1 == bt162.1) || (!(bt160.2 == bt162.2))) = true then (none) else ((plexuslaw23_best.f k 6 3).bind fun bt164 => ((plexuslaw23_is.f 8).bind fun bt166 => (if (!(bt164.1 == bt166.1) || (!(bt164.2 == bt166.2))) = true then (none) else ((plexuslaw23_best.f k 7 3).bind fun bt168 => ((plexuslaw23_is.f 16).bind fun bt170 => (if (!(bt168.1 == bt170.1) || (!(bt168.2 == bt170.2))) = true then (none) else ((plexuslaw23_griesmer.f k 4 3).bind fun bt172 => ((plexuslaw23_is.f 7).bind fun bt174 => (if (!(bt172.1 == bt174.1) || (!(bt172.2 == bt174.2))) = true then (none) else ((plexuslaw23_griesmer.f k 3 4).bind fun bt176 => ((plexuslaw23_is.f 7).bind fun bt178 => (if (!(bt176.1 == bt178.1) || (!(bt176.2 == bt178.2))) = true then (none) else ((plexuslaw23_best.f k 3 4).bind fun bt180 => (if bt180.2 = 1 then ((plexuslaw23_griesmer.f k 0 1).bind fun bt182 => (if bt182.2 = 1 then ((plexuslaw23_greedy.f k 5 3).bind fun bt184 => (if bt184.2 = 0 then ((plexuslaw23_same.f k bt184.1 (([0, 7, 25, 30] : List Int))).bind fun t192 => (if t192 = true then ((plexuslaw23_greedy.f k 11 3).bind fun bt193 => (some (bt193.2 == 1))) else (none))) else (none))) else (none))) else (none)))))))))))))))))) else (none))))))))))) = some r := H
        have A10 := Aside0.mk A100
        clear A100
        replace H := Option.bind_eq_some_iff.mp H
        obtain ⟨⟨t148, t149⟩, A110, H⟩ := H
        replace H : (if (!(t146 == t148) || (!(t147 == t149))) = true then (none) else ((plexuslaw23_plotkin.f k 8 4).bind fun bt150 => ((plexuslaw23_is.f 16).bind fun bt152 => (if (!(bt150.1 == bt152.1) || (!(bt150.2 == bt152.2))) = true then (none) else ((plexuslaw23_plotkin.f k 6 4).bind fun bt154 => ((plexuslaw23_is.f 4).bind fun bt156 => (if (!(bt154.1 == bt156.1) || (!(bt154.2 == bt156.2))) = true then (none) else ((plexuslaw23_plotkin.f k 9 4).bind fun bt158 => (if bt158.2 = 4 then ((plexuslaw23_best.f k 5 3).bind fun bt160 => ((plexuslaw23_is.f 4).bind fun bt162 => (if (!(bt160.1 == bt162.1) || (!(bt160.2 == bt162.2))) = true then (none) else ((plexuslaw23_best.f k 6 3).bind fun bt164 => ((plexuslaw23_is.f 8).bind fun bt166 => (if (!(bt164.1 == bt166.1) || (!(bt164.2 == bt166.2))) = true then (none) else ((plexuslaw23_best.f k 7 3).bind fun bt168 => ((plexuslaw23_is.f 16).bind fun bt170 => (if (!(bt168.1 == bt170.1) || (!(bt168.2 == bt170.2))) = true then (none) else ((plexuslaw23_griesmer.f k 4 3).bind fun bt172 => ((plexuslaw23_is.f 7).bind fun bt174 => (if (!(bt172.1 == bt174.1) || (!(bt172.2 == bt174.2))) = true then (none) else ((plexuslaw23_griesmer.f k 3 4).bind fun bt176 => ((plexuslaw23_is.f 7).bind fun bt178 => (if (!(bt176.1 == bt178.1) || (!(bt176.2 == bt178.2))) = true then (none) else ((plexuslaw23_best.f k 3 4).bind fun bt180 => (if bt180.2 = 1 then ((plexuslaw23_griesmer.f k 0 1).bind fun bt182 => (if bt182.2 = 1 then ((plexuslaw23_greedy.f k 5 3).bind fun bt184 => (if bt184.2 = 0 then ((plexuslaw23_same.f k bt184.1 (([0, 7, 25, 30] : List Int))).bind fun t192 => (if t192 = true then ((plexuslaw23_greedy.f k 11 3).bind fun bt193 => (some (bt193.2 == 1))) else (none))) else (none))) else (none))) else (none)))))))))))))))))) else (none)))))))))) = some r := H
        have A11 := Aside0.mk A110
        clear A110
        by_cases c12 : (!(t146 == t148) || (!(t147 == t149))) = true
        · rw [if_pos c12] at H
          exact absurd H (by simp)
        · rw [if_neg c12] at H
          have c12b0 : (!(t146 == t148) || (!(t147 == t149))) = false := by simpa using c12
          clear c12
          replace H := Option.bind_eq_some_iff.mp H
          obtain ⟨⟨t150, t151⟩, A130, H⟩ := H
          replace H : ((plexuslaw23_is.f 16).bind fun bt152 => (if (!(t150 == bt152.1) || (!(t151 == bt152.2))) = true then (none) else ((plexuslaw23_plotkin.f k 6 4).bind fun bt154 => ((plexuslaw23_is.f 4).bind fun bt156 => (if (!(bt154.1 == bt156.1) || (!(bt154.2 == bt156.2))) = true then (none) else ((plexuslaw23_plotkin.f k 9 4).bind fun bt158 => (if bt158.2 = 4 then ((plexuslaw23_best.f k 5 3).bind fun bt160 => ((plexuslaw23_is.f 4).bind fun bt162 => (if (!(bt160.1 == bt162.1) || (!(bt160.2 == bt162.2))) = true then (none) else ((plexuslaw23_best.f k 6 3).bind fun bt164 => ((plexuslaw23_is.f 8).bind fun bt166 => (if (!(bt164.1 == bt166.1) || (!(bt164.2 == bt166.2))) = true then (none) else ((plexuslaw23_best.f k 7 3).bind fun bt168 => ((plexuslaw23_is.f 16).bind fun bt170 => (if (!(bt168.1 == bt170.1) || (!(bt168.2 == bt170.2))) = true then (none) else ((plexuslaw23_griesmer.f k 4 3).bind fun bt172 => ((plexuslaw23_is.f 7).bind fun bt174 => (if (!(bt172.1 == bt174.1) || (!(bt172.2 == bt174.2))) = true then (none) else ((plexuslaw23_griesmer.f k 3 4).bind fun bt176 => ((plexuslaw23_is.f 7).bind fun bt178 => (if (!(bt176.1 == bt178.1) || (!(bt176.2 == bt178.2))) = true then (none) else ((plexuslaw23_best.f k 3 4).bind fun bt180 => (if bt180.2 = 1 then ((plexuslaw23_griesmer.f k 0 1).bind fun bt182 => (if bt182.2 = 1 then ((plexuslaw23_greedy.f k 5 3).bind fun bt184 => (if bt184.2 = 0 then ((plexuslaw23_same.f k bt184.1 (([0, 7, 25, 30] : List Int))).bind fun t192 => (if t192 = true then ((plexuslaw23_greedy.f k 11 3).bind fun bt193 => (some (bt193.2 == 1))) else (none))) else (none))) else (none))) else (none)))))))))))))))))) else (none)))))))) = some r := H
          have A13 := Aside0.mk A130
          clear A130
          replace H := Option.bind_eq_some_iff.mp H
          obtain ⟨⟨t152, t153⟩, A140, H⟩ := H
          replace H : (if (!(t150 == t152) || (!(t151 == t153))) = true then (none) else ((plexuslaw23_plotkin.f k 6 4).bind fun bt154 => ((plexuslaw23_is.f 4).bind fun bt156 => (if (!(bt154.1 == bt156.1) || (!(bt154.2 == bt156.2))) = true then (none) else ((plexuslaw23_plotkin.f k 9 4).bind fun bt158 => (if bt158.2 = 4 then ((plexuslaw23_best.f k 5 3).bind fun bt160 => ((plexuslaw23_is.f 4).bind fun bt162 => (if (!(bt160.1 == bt162.1) || (!(bt160.2 == bt162.2))) = true then (none) else ((plexuslaw23_best.f k 6 3).bind fun bt164 => ((plexuslaw23_is.f 8).bind fun bt166 => (if (!(bt164.1 == bt166.1) || (!(bt164.2 == bt166.2))) = true then (none) else ((plexuslaw23_best.f k 7 3).bind fun bt168 => ((plexuslaw23_is.f 16).bind fun bt170 => (if (!(bt168.1 == bt170.1) || (!(bt168.2 == bt170.2))) = true then (none) else ((plexuslaw23_griesmer.f k 4 3).bind fun bt172 => ((plexuslaw23_is.f 7).bind fun bt174 => (if (!(bt172.1 == bt174.1) || (!(bt172.2 == bt174.2))) = true then (none) else ((plexuslaw23_griesmer.f k 3 4).bind fun bt176 => ((plexuslaw23_is.f 7).bind fun bt178 => (if (!(bt176.1 == bt178.1) || (!(bt176.2 == bt178.2))) = true then (none) else ((plexuslaw23_best.f k 3 4).bind fun bt180 => (if bt180.2 = 1 then ((plexuslaw23_griesmer.f k 0 1).bind fun bt182 => (if bt182.2 = 1 then ((plexuslaw23_greedy.f k 5 3).bind fun bt184 => (if bt184.2 = 0 then ((plexuslaw23_same.f k bt184.1 (([0, 7, 25, 30] : List Int))).bind fun t192 => (if t192 = true then ((plexuslaw23_greedy.f k 11 3).bind fun bt193 => (some (bt193.2 == 1))) else (none))) else (none))) else (none))) else (none)))))))))))))))))) else (none))))))) = some r := H
          have A14 := Aside0.mk A140
          clear A140
          by_cases c15 : (!(t150 == t152) || (!(t151 == t153))) = true
          · rw [if_pos c15] at H
            exact absurd H (by simp)
          · rw [if_neg c15] at H
            have c15b0 : (!(t150 == t152) || (!(t151 == t153))) = false := by simpa using c15
            clear c15
            replace H := Option.bind_eq_some_iff.mp H
            obtain ⟨⟨t154, t155⟩, A160, H⟩ := H
            replace H : ((plexuslaw23_is.f 4).bind fun bt156 => (if (!(t154 == bt156.1) || (!(t155 == bt156.2))) = true then (none) else ((plexuslaw23_plotkin.f k 9 4).bind fun bt158 => (if bt158.2 = 4 then ((plexuslaw23_best.f k 5 3).bind fun bt160 => ((plexuslaw23_is.f 4).bind fun bt162 => (if (!(bt160.1 == bt162.1) || (!(bt160.2 == bt162.2))) = true then (none) else ((plexuslaw23_best.f k 6 3).bind fun bt164 => ((plexuslaw23_is.f 8).bind fun bt166 => (if (!(bt164.1 == bt166.1) || (!(bt164.2 == bt166.2))) = true then (none) else ((plexuslaw23_best.f k 7 3).bind fun bt168 => ((plexuslaw23_is.f 16).bind fun bt170 => (if (!(bt168.1 == bt170.1) || (!(bt168.2 == bt170.2))) = true then (none) else ((plexuslaw23_griesmer.f k 4 3).bind fun bt172 => ((plexuslaw23_is.f 7).bind fun bt174 => (if (!(bt172.1 == bt174.1) || (!(bt172.2 == bt174.2))) = true then (none) else ((plexuslaw23_griesmer.f k 3 4).bind fun bt176 => ((plexuslaw23_is.f 7).bind fun bt178 => (if (!(bt176.1 == bt178.1) || (!(bt176.2 == bt178.2))) = true then (none) else ((plexuslaw23_best.f k 3 4).bind fun bt180 => (if bt180.2 = 1 then ((plexuslaw23_griesmer.f k 0 1).bind fun bt182 => (if bt182.2 = 1 then ((plexuslaw23_greedy.f k 5 3).bind fun bt184 => (if bt184.2 = 0 then ((plexuslaw23_same.f k bt184.1 (([0, 7, 25, 30] : List Int))).bind fun t192 => (if t192 = true then ((plexuslaw23_greedy.f k 11 3).bind fun bt193 => (some (bt193.2 == 1))) else (none))) else (none))) else (none))) else (none)))))))))))))))))) else (none))))) = some r := H
            have A16 := Aside0.mk A160
            clear A160
            replace H := Option.bind_eq_some_iff.mp H
            obtain ⟨⟨t156, t157⟩, A170, H⟩ := H
            replace H : (if (!(t154 == t156) || (!(t155 == t157))) = true then (none) else ((plexuslaw23_plotkin.f k 9 4).bind fun bt158 => (if bt158.2 = 4 then ((plexuslaw23_best.f k 5 3).bind fun bt160 => ((plexuslaw23_is.f 4).bind fun bt162 => (if (!(bt160.1 == bt162.1) || (!(bt160.2 == bt162.2))) = true then (none) else ((plexuslaw23_best.f k 6 3).bind fun bt164 => ((plexuslaw23_is.f 8).bind fun bt166 => (if (!(bt164.1 == bt166.1) || (!(bt164.2 == bt166.2))) = true then (none) else ((plexuslaw23_best.f k 7 3).bind fun bt168 => ((plexuslaw23_is.f 16).bind fun bt170 => (if (!(bt168.1 == bt170.1) || (!(bt168.2 == bt170.2))) = true then (none) else ((plexuslaw23_griesmer.f k 4 3).bind fun bt172 => ((plexuslaw23_is.f 7).bind fun bt174 => (if (!(bt172.1 == bt174.1) || (!(bt172.2 == bt174.2))) = true then (none) else ((plexuslaw23_griesmer.f k 3 4).bind fun bt176 => ((plexuslaw23_is.f 7).bind fun bt178 => (if (!(bt176.1 == bt178.1) || (!(bt176.2 == bt178.2))) = true then (none) else ((plexuslaw23_best.f k 3 4).bind fun bt180 => (if bt180.2 = 1 then ((plexuslaw23_griesmer.f k 0 1).bind fun bt182 => (if bt182.2 = 1 then ((plexuslaw23_greedy.f k 5 3).bind fun bt184 => (if bt184.2 = 0 then ((plexuslaw23_same.f k bt184.1 (([0, 7, 25, 30] : List Int))).bind fun t192 => (if t192 = true then ((plexuslaw23_greedy.f k 11 3).bind fun bt193 => (some (bt193.2 == 1))) else (none))) else (none))) else (none))) else (none)))))))))))))))))) else (none)))) = some r := H
            have A17 := Aside0.mk A170
            clear A170
            by_cases c18 : (!(t154 == t156) || (!(t155 == t157))) = true
            · rw [if_pos c18] at H
              exact absurd H (by simp)
            · rw [if_neg c18] at H
              have c18b0 : (!(t154 == t156) || (!(t155 == t157))) = false := by simpa using c18
              clear c18
              replace H := Option.bind_eq_some_iff.mp H
              obtain ⟨⟨t158, t159⟩, A190, H⟩ := H
              replace H : (if t159 = 4 then ((plexuslaw23_best.f k 5 3).bind fun bt160 => ((plexuslaw23_is.f 4).bind fun bt162 => (if (!(bt160.1 == bt162.1) || (!(bt160.2 == bt162.2))) = true then (none) else ((plexuslaw23_best.f k 6 3).bind fun bt164 => ((plexuslaw23_is.f 8).bind fun bt166 => (if (!(bt164.1 == bt166.1) || (!(bt164.2 == bt166.2))) = true then (none) else ((plexuslaw23_best.f k 7 3).bind fun bt168 => ((plexuslaw23_is.f 16).bind fun bt170 => (if (!(bt168.1 == bt170.1) || (!(bt168.2 == bt170.2))) = true then (none) else ((plexuslaw23_griesmer.f k 4 3).bind fun bt172 => ((plexuslaw23_is.f 7).bind fun bt174 => (if (!(bt172.1 == bt174.1) || (!(bt172.2 == bt174.2))) = true then (none) else ((plexuslaw23_griesmer.f k 3 4).bind fun bt176 => ((plexuslaw23_is.f 7).bind fun bt178 => (if (!(bt176.1 == bt178.1) || (!(bt176.2 == bt178.2))) = true then (none) else ((plexuslaw23_best.f k 3 4).bind fun bt180 => (if bt180.2 = 1 then ((plexuslaw23_griesmer.f k 0 1).bind fun bt182 => (if bt182.2 = 1 then ((plexuslaw23_greedy.f k 5 3).bind fun bt184 => (if bt184.2 = 0 then ((plexuslaw23_same.f k bt184.1 (([0, 7, 25, 30] : List Int))).bind fun t192 => (if t192 = true then ((plexuslaw23_greedy.f k 11 3).bind fun bt193 => (some (bt193.2 == 1))) else (none))) else (none))) else (none))) else (none)))))))))))))))))) else (none)) = some r := H
              have A19 := Aside0.mk A190
              clear A190
              by_cases c20 : t159 = 4
              · rw [if_pos c20] at H
                have c20b0 : (t159 == 4) = true := beq_iff_eq.mpr c20
                have c20b1 : (t159 != 4) = false := bne_eq_false_iff_eq.mpr c20
                clear c20
                replace H := Option.bind_eq_some_iff.mp H
                obtain ⟨⟨t160, t161⟩, A210, H⟩ := H
                replace H : ((plexuslaw23_is.f 4).bind fun bt162 => (if (!(t160 == bt162.1) || (!(t161 == bt162.2))) = true then (none) else ((plexuslaw23_best.f k 6 3).bind fun bt164 => ((plexuslaw23_is.f 8).bind fun bt166 => (if (!(bt164.1 == bt166.1) || (!(bt164.2 == bt166.2))) = true then (none) else ((plexuslaw23_best.f k 7 3).bind fun bt168 => ((plexuslaw23_is.f 16).bind fun bt170 => (if (!(bt168.1 == bt170.1) || (!(bt168.2 == bt170.2))) = true then (none) else ((plexuslaw23_griesmer.f k 4 3).bind fun bt172 => ((plexuslaw23_is.f 7).bind fun bt174 => (if (!(bt172.1 == bt174.1) || (!(bt172.2 == bt174.2))) = true then (none) else ((plexuslaw23_griesmer.f k 3 4).bind fun bt176 => ((plexuslaw23_is.f 7).bind fun bt178 => (if (!(bt176.1 == bt178.1) || (!(bt176.2 == bt178.2))) = true then (none) else ((plexuslaw23_best.f k 3 4).bind fun bt180 => (if bt180.2 = 1 then ((plexuslaw23_griesmer.f k 0 1).bind fun bt182 => (if bt182.2 = 1 then ((plexuslaw23_greedy.f k 5 3).bind fun bt184 => (if bt184.2 = 0 then ((plexuslaw23_same.f k bt184.1 (([0, 7, 25, 30] : List Int))).bind fun t192 => (if t192 = true then ((plexuslaw23_greedy.f k 11 3).bind fun bt193 => (some (bt193.2 == 1))) else (none))) else (none))) else (none))) else (none))))))))))))))))) = some r := H
                have A21 := Aside0.mk A210
                clear A210
                replace H := Option.bind_eq_some_iff.mp H
                obtain ⟨⟨t162, t163⟩, A220, H⟩ := H
                replace H : (if (!(t160 == t162) || (!(t161 == t163))) = true then (none) else ((plexuslaw23_best.f k 6 3).bind fun bt164 => ((plexuslaw23_is.f 8).bind fun bt166 => (if (!(bt164.1 == bt166.1) || (!(bt164.2 == bt166.2))) = true then (none) else ((plexuslaw23_best.f k 7 3).bind fun bt168 => ((plexuslaw23_is.f 16).bind fun bt170 => (if (!(bt168.1 == bt170.1) || (!(bt168.2 == bt170.2))) = true then (none) else ((plexuslaw23_griesmer.f k 4 3).bind fun bt172 => ((plexuslaw23_is.f 7).bind fun bt174 => (if (!(bt172.1 == bt174.1) || (!(bt172.2 == bt174.2))) = true then (none) else ((plexuslaw23_griesmer.f k 3 4).bind fun bt176 => ((plexuslaw23_is.f 7).bind fun bt178 => (if (!(bt176.1 == bt178.1) || (!(bt176.2 == bt178.2))) = true then (none) else ((plexuslaw23_best.f k 3 4).bind fun bt180 => (if bt180.2 = 1 then ((plexuslaw23_griesmer.f k 0 1).bind fun bt182 => (if bt182.2 = 1 then ((plexuslaw23_greedy.f k 5 3).bind fun bt184 => (if bt184.2 = 0 then ((plexuslaw23_same.f k bt184.1 (([0, 7, 25, 30] : List Int))).bind fun t192 => (if t192 = true then ((plexuslaw23_greedy.f k 11 3).bind fun bt193 => (some (bt193.2 == 1))) else (none))) else (none))) else (none))) else (none)))))))))))))))) = some r := H
                have A22 := Aside0.mk A220
                clear A220
                by_cases c23 : (!(t160 == t162) || (!(t161 == t163))) = true
                · rw [if_pos c23] at H
                  exact absurd H (by simp)
                · rw [if_neg c23] at H
                  have c23b0 : (!(t160 == t162) || (!(t161 == t163))) = false := by simpa using c23
                  clear c23
                  replace H := Option.bind_eq_some_iff.mp H
                  obtain ⟨⟨t164, t165⟩, A240, H⟩ := H
                  replace H : ((plexuslaw23_is.f 8).bind fun bt166 => (if (!(t164 == bt166.1) || (!(t165 == bt166.2))) = true then (none) else ((plexuslaw23_best.f k 7 3).bind fun bt168 => ((plexuslaw23_is.f 16).bind fun bt170 => (if (!(bt168.1 == bt170.1) || (!(bt168.2 == bt170.2))) = true then (none) else ((plexuslaw23_griesmer.f k 4 3).bind fun bt172 => ((plexuslaw23_is.f 7).bind fun bt174 => (if (!(bt172.1 == bt174.1) || (!(bt172.2 == bt174.2))) = true then (none) else ((plexuslaw23_griesmer.f k 3 4).bind fun bt176 => ((plexuslaw23_is.f 7).bind fun bt178 => (if (!(bt176.1 == bt178.1) || (!(bt176.2 == bt178.2))) = true then (none) else ((plexuslaw23_best.f k 3 4).bind fun bt180 => (if bt180.2 = 1 then ((plexuslaw23_griesmer.f k 0 1).bind fun bt182 => (if bt182.2 = 1 then ((plexuslaw23_greedy.f k 5 3).bind fun bt184 => (if bt184.2 = 0 then ((plexuslaw23_same.f k bt184.1 (([0, 7, 25, 30] : List Int))).bind fun t192 => (if t192 = true then ((plexuslaw23_greedy.f k 11 3).bind fun bt193 => (some (bt193.2 == 1))) else (none))) else (none))) else (none))) else (none)))))))))))))) = some r := H
                  have A24 := Aside0.mk A240
                  clear A240
                  replace H := Option.bind_eq_some_iff.mp H
                  obtain ⟨⟨t166, t167⟩, A250, H⟩ := H
                  replace H : (if (!(t164 == t166) || (!(t165 == t167))) = true then (none) else ((plexuslaw23_best.f k 7 3).bind fun bt168 => ((plexuslaw23_is.f 16).bind fun bt170 => (if (!(bt168.1 == bt170.1) || (!(bt168.2 == bt170.2))) = true then (none) else ((plexuslaw23_griesmer.f k 4 3).bind fun bt172 => ((plexuslaw23_is.f 7).bind fun bt174 => (if (!(bt172.1 == bt174.1) || (!(bt172.2 == bt174.2))) = true then (none) else ((plexuslaw23_griesmer.f k 3 4).bind fun bt176 => ((plexuslaw23_is.f 7).bind fun bt178 => (if (!(bt176.1 == bt178.1) || (!(bt176.2 == bt178.2))) = true then (none) else ((plexuslaw23_best.f k 3 4).bind fun bt180 => (if bt180.2 = 1 then ((plexuslaw23_griesmer.f k 0 1).bind fun bt182 => (if bt182.2 = 1 then ((plexuslaw23_greedy.f k 5 3).bind fun bt184 => (if bt184.2 = 0 then ((plexuslaw23_same.f k bt184.1 (([0, 7, 25, 30] : List Int))).bind fun t192 => (if t192 = true then ((plexuslaw23_greedy.f k 11 3).bind fun bt193 => (some (bt193.2 == 1))) else (none))) else (none))) else (none))) else (none))))))))))))) = some r := H
                  have A25 := Aside0.mk A250
                  clear A250
                  by_cases c26 : (!(t164 == t166) || (!(t165 == t167))) = true
                  · rw [if_pos c26] at H
                    exact absurd H (by simp)
                  · rw [if_neg c26] at H
                    have c26b0 : (!(t164 == t166) || (!(t165 == t167))) = false := by simpa using c26
                    clear c26
                    replace H := Option.bind_eq_some_iff.mp H
                    obtain ⟨⟨t168, t169⟩, A270, H⟩ := H
                    replace H : ((plexuslaw23_is.f 16).bind fun bt170 => (if (!(t168 == bt170.1) || (!(t169 == bt170.2))) = true then (none) else ((plexuslaw23_griesmer.f k 4 3).bind fun bt172 => ((plexuslaw23_is.f 7).bind fun bt174 => (if (!(bt172.1 == bt174.1) || (!(bt172.2 == bt174.2))) = true then (none) else ((plexuslaw23_griesmer.f k 3 4).bind fun bt176 => ((plexuslaw23_is.f 7).bind fun bt178 => (if (!(bt176.1 == bt178.1) || (!(bt176.2 == bt178.2))) = true then (none) else ((plexuslaw23_best.f k 3 4).bind fun bt180 => (if bt180.2 = 1 then ((plexuslaw23_griesmer.f k 0 1).bind fun bt182 => (if bt182.2 = 1 then ((plexuslaw23_greedy.f k 5 3).bind fun bt184 => (if bt184.2 = 0 then ((plexuslaw23_same.f k bt184.1 (([0, 7, 25, 30] : List Int))).bind fun t192 => (if t192 = true then ((plexuslaw23_greedy.f k 11 3).bind fun bt193 => (some (bt193.2 == 1))) else (none))) else (none))) else (none))) else (none))))))))))) = some r := H
                    have A27 := Aside0.mk A270
                    clear A270
                    replace H := Option.bind_eq_some_iff.mp H
                    obtain ⟨⟨t170, t171⟩, A280, H⟩ := H
                    replace H : (if (!(t168 == t170) || (!(t169 == t171))) = true then (none) else ((plexuslaw23_griesmer.f k 4 3).bind fun bt172 => ((plexuslaw23_is.f 7).bind fun bt174 => (if (!(bt172.1 == bt174.1) || (!(bt172.2 == bt174.2))) = true then (none) else ((plexuslaw23_griesmer.f k 3 4).bind fun bt176 => ((plexuslaw23_is.f 7).bind fun bt178 => (if (!(bt176.1 == bt178.1) || (!(bt176.2 == bt178.2))) = true then (none) else ((plexuslaw23_best.f k 3 4).bind fun bt180 => (if bt180.2 = 1 then ((plexuslaw23_griesmer.f k 0 1).bind fun bt182 => (if bt182.2 = 1 then ((plexuslaw23_greedy.f k 5 3).bind fun bt184 => (if bt184.2 = 0 then ((plexuslaw23_same.f k bt184.1 (([0, 7, 25, 30] : List Int))).bind fun t192 => (if t192 = true then ((plexuslaw23_greedy.f k 11 3).bind fun bt193 => (some (bt193.2 == 1))) else (none))) else (none))) else (none))) else (none)))))))))) = some r := H
                    have A28 := Aside0.mk A280
                    clear A280
                    by_cases c29 : (!(t168 == t170) || (!(t169 == t171))) = true
                    · rw [if_pos c29] at H
                      exact absurd H (by simp)
                    · rw [if_neg c29] at H
                      have c29b0 : (!(t168 == t170) || (!(t169 == t171))) = false := by simpa using c29
                      clear c29
                      replace H := Option.bind_eq_some_iff.mp H
                      obtain ⟨⟨t172, t173⟩, A300, H⟩ := H
                      replace H : ((plexuslaw23_is.f 7).bind fun bt174 => (if (!(t172 == bt174.1) || (!(t173 == bt174.2))) = true then (none) else ((plexuslaw23_griesmer.f k 3 4).bind fun bt176 => ((plexuslaw23_is.f 7).bind fun bt178 => (if (!(bt176.1 == bt178.1) || (!(bt176.2 == bt178.2))) = true then (none) else ((plexuslaw23_best.f k 3 4).bind fun bt180 => (if bt180.2 = 1 then ((plexuslaw23_griesmer.f k 0 1).bind fun bt182 => (if bt182.2 = 1 then ((plexuslaw23_greedy.f k 5 3).bind fun bt184 => (if bt184.2 = 0 then ((plexuslaw23_same.f k bt184.1 (([0, 7, 25, 30] : List Int))).bind fun t192 => (if t192 = true then ((plexuslaw23_greedy.f k 11 3).bind fun bt193 => (some (bt193.2 == 1))) else (none))) else (none))) else (none))) else (none)))))))) = some r := H
                      have A30 := Aside0.mk A300
                      clear A300
                      replace H := Option.bind_eq_some_iff.mp H
                      obtain ⟨⟨t174, t175⟩, A310, H⟩ := H
                      replace H : (if (!(t172 == t174) || (!(t173 == t175))) = true then (none) else ((plexuslaw23_griesmer.f k 3 4).bind fun bt176 => ((plexuslaw23_is.f 7).bind fun bt178 => (if (!(bt176.1 == bt178.1) || (!(bt176.2 == bt178.2))) = true then (none) else ((plexuslaw23_best.f k 3 4).bind fun bt180 => (if bt180.2 = 1 then ((plexuslaw23_griesmer.f k 0 1).bind fun bt182 => (if bt182.2 = 1 then ((plexuslaw23_greedy.f k 5 3).bind fun bt184 => (if bt184.2 = 0 then ((plexuslaw23_same.f k bt184.1 (([0, 7, 25, 30] : List Int))).bind fun t192 => (if t192 = true then ((plexuslaw23_greedy.f k 11 3).bind fun bt193 => (some (bt193.2 == 1))) else (none))) else (none))) else (none))) else (none))))))) = some r := H
                      have A31 := Aside0.mk A310
                      clear A310
                      by_cases c32 : (!(t172 == t174) || (!(t173 == t175))) = true
                      · rw [if_pos c32] at H
                        exact absurd H (by simp)
                      · rw [if_neg c32] at H
                        have c32b0 : (!(t172 == t174) || (!(t173 == t175))) = false := by simpa using c32
                        clear c32
                        replace H := Option.bind_eq_some_iff.mp H
                        obtain ⟨⟨t176, t177⟩, A330, H⟩ := H
                        replace H : ((plexuslaw23_is.f 7).bind fun bt178 => (if (!(t176 == bt178.1) || (!(t177 == bt178.2))) = true then (none) else ((plexuslaw23_best.f k 3 4).bind fun bt180 => (if bt180.2 = 1 then ((plexuslaw23_griesmer.f k 0 1).bind fun bt182 => (if bt182.2 = 1 then ((plexuslaw23_greedy.f k 5 3).bind fun bt184 => (if bt184.2 = 0 then ((plexuslaw23_same.f k bt184.1 (([0, 7, 25, 30] : List Int))).bind fun t192 => (if t192 = true then ((plexuslaw23_greedy.f k 11 3).bind fun bt193 => (some (bt193.2 == 1))) else (none))) else (none))) else (none))) else (none))))) = some r := H
                        have A33 := Aside0.mk A330
                        clear A330
                        replace H := Option.bind_eq_some_iff.mp H
                        obtain ⟨⟨t178, t179⟩, A340, H⟩ := H
                        replace H : (if (!(t176 == t178) || (!(t177 == t179))) = true then (none) else ((plexuslaw23_best.f k 3 4).bind fun bt180 => (if bt180.2 = 1 then ((plexuslaw23_griesmer.f k 0 1).bind fun bt182 => (if bt182.2 = 1 then ((plexuslaw23_greedy.f k 5 3).bind fun bt184 => (if bt184.2 = 0 then ((plexuslaw23_same.f k bt184.1 (([0, 7, 25, 30] : List Int))).bind fun t192 => (if t192 = true then ((plexuslaw23_greedy.f k 11 3).bind fun bt193 => (some (bt193.2 == 1))) else (none))) else (none))) else (none))) else (none)))) = some r := H
                        have A34 := Aside0.mk A340
                        clear A340
                        by_cases c35 : (!(t176 == t178) || (!(t177 == t179))) = true
                        · rw [if_pos c35] at H
                          exact absurd H (by simp)
                        · rw [if_neg c35] at H
                          have c35b0 : (!(t176 == t178) || (!(t177 == t179))) = false := by simpa using c35
                          clear c35
                          replace H := Option.bind_eq_some_iff.mp H
                          obtain ⟨⟨t180, t181⟩, A360, H⟩ := H
                          replace H : (if t181 = 1 then ((plexuslaw23_griesmer.f k 0 1).bind fun bt182 => (if bt182.2 = 1 then ((plexuslaw23_greedy.f k 5 3).bind fun bt184 => (if bt184.2 = 0 then ((plexuslaw23_same.f k bt184.1 (([0, 7, 25, 30] : List Int))).bind fun t192 => (if t192 = true then ((plexuslaw23_greedy.f k 11 3).bind fun bt193 => (some (bt193.2 == 1))) else (none))) else (none))) else (none))) else (none)) = some r := H
                          have A36 := Aside0.mk A360
                          clear A360
                          by_cases c37 : t181 = 1
                          · rw [if_pos c37] at H
                            have c37b0 : (t181 == 1) = true := beq_iff_eq.mpr c37
                            have c37b1 : (t181 != 1) = false := bne_eq_false_iff_eq.mpr c37
                            clear c37
                            replace H := Option.bind_eq_some_iff.mp H
                            obtain ⟨⟨t182, t183⟩, A380, H⟩ := H
                            replace H : (if t183 = 1 then ((plexuslaw23_greedy.f k 5 3).bind fun bt184 => (if bt184.2 = 0 then ((plexuslaw23_same.f k bt184.1 (([0, 7, 25, 30] : List Int))).bind fun t192 => (if t192 = true then ((plexuslaw23_greedy.f k 11 3).bind fun bt193 => (some (bt193.2 == 1))) else (none))) else (none))) else (none)) = some r := H
                            have A38 := Aside0.mk A380
                            clear A380
                            by_cases c39 : t183 = 1
                            · rw [if_pos c39] at H
                              have c39b0 : (t183 == 1) = true := beq_iff_eq.mpr c39
                              have c39b1 : (t183 != 1) = false := bne_eq_false_iff_eq.mpr c39
                              clear c39
                              replace H := Option.bind_eq_some_iff.mp H
                              obtain ⟨⟨t184, t187⟩, A400, H⟩ := H
                              replace H : (if t187 = 0 then ((plexuslaw23_same.f k t184 (([0, 7, 25, 30] : List Int))).bind fun t192 => (if t192 = true then ((plexuslaw23_greedy.f k 11 3).bind fun bt193 => (some (bt193.2 == 1))) else (none))) else (none)) = some r := H
                              have A40 := Aside0.mk A400
                              clear A400
                              by_cases c41 : t187 = 0
                              · rw [if_pos c41] at H
                                have c41b0 : (t187 == 0) = true := beq_iff_eq.mpr c41
                                have c41b1 : (t187 != 0) = false := bne_eq_false_iff_eq.mpr c41
                                clear c41
                                obtain ⟨y189, hy189⟩ : ∃ y_ : List Int, y_ = (([0, 7, 25, 30] : List Int)) := ⟨_, rfl⟩
                                replace H : ((plexuslaw23_same.f k t184 y189).bind fun t192 => (if t192 = true then ((plexuslaw23_greedy.f k 11 3).bind fun bt193 => (some (bt193.2 == 1))) else (none))) = some r := by first | (rw [hy189]; with_reducible exact H) | (have H2_ := (Option.bind_some _ _).symm.trans H; rw [hy189]; with_reducible exact H2_) | (have H2_ := (Option.bind_some _ _).symm.trans H; with_reducible exact H2_) | with_reducible exact H | (rw [hy189]; exact H) | exact H
                                have Ny189 := Aside0.mk hy189
                                clear hy189
                                replace H := Option.bind_eq_some_iff.mp H
                                obtain ⟨t192, A420, H⟩ := H
                                replace H : (if t192 = true then ((plexuslaw23_greedy.f k 11 3).bind fun bt193 => (some (bt193.2 == 1))) else (none)) = some r := H
                                have A42 := Aside0.mk A420
                                clear A420
                                by_cases c43 : t192 = true
                                · subst c43
                                  have H1 : ((plexuslaw23_greedy.f k 11 3).bind fun bt193 => (some (bt193.2 == 1))) = some r := by rw [if_pos rfl] at H; exact H
                                  clear H
                                  have H := H1
                                  clear H1
                                  replace H := Option.bind_eq_some_iff.mp H
                                  obtain ⟨⟨t193, t196⟩, A440, H⟩ := H
                                  replace H : (some (t196 == 1)) = some r := H
                                  have A44 := Aside0.mk A440
                                  clear A440
                                  obtain rfl := Option.some.inj H
                                  go_enter Try.func35, Try.ntmps35
                                  go_wp2_with (first | ((with_reducible refine gate_callee (f := 36) rfl ?_); refine goesL_ (some 2) rfl rfl Try.func36 (by kernel_rfl) rfl #[.int .i64 7, .int .i64 3] rfl (by (try simp only [List.map_toArray, List.map_cons, List.map_nil]); first | done | rfl | (simp only [List.length_drop, List.length_take]; rfl)) ?_; (with_reducible refine (plexuslaw23_sphere.calls k 7 3 t134 t135 _ A1.out).mono ?_); rintro e w45 ⟨rfl, hb⟩; refine ⟨_, rfl, ?_⟩; have n0_ := Aside0.mk (below_step (by repeat (first | (with_reducible first | exact HB.out | apply below_alloc | apply pw_below_drewN | apply below_drew1) | exact HB.out)) hb); clear HB; have HB := n0_; clear n0_; (try clear hb); (try clear hb2); (try clear hk); (try clear hi)) | ((with_reducible refine gate_callee (f := 54) rfl ?_); refine goesL_ (some 3) rfl rfl Try.func54 (by kernel_rfl) rfl #[.int .i64 16] rfl (by (try simp only [List.map_toArray, List.map_cons, List.map_nil]); first | done | rfl | (simp only [List.length_drop, List.length_take]; rfl)) ?_; (with_reducible refine (plexuslaw23_is.calls 16 t136 t137 _ A2.out).mono ?_); rintro e w46 ⟨rfl, hb⟩; refine ⟨_, rfl, ?_⟩; have n0_ := Aside0.mk (below_step (by repeat (first | (with_reducible first | exact HB.out | apply below_alloc | apply pw_below_drewN | apply below_drew1) | exact HB.out)) hb); clear HB; have HB := n0_; clear n0_; (try clear hb); (try clear hb2); (try clear hk); (try clear hi); clear A2) | (go_at_call 36; (with_reducible refine (plexuslaw23_sphere.calls k 5 3 t138 t139 _ A4.out).mono ?_); rintro e w47 ⟨rfl, hb⟩; have n0_ := Aside0.mk (below_step (by repeat (first | (with_reducible first | exact HB.out | apply below_alloc | apply pw_below_drewN | apply below_drew1) | exact HB.out)) hb); clear HB; have HB := n0_; clear n0_; (try clear hb); (try clear hb2); (try clear hk); (try clear hi)) | (go_at_call 54; (with_reducible refine (plexuslaw23_is.calls 5 t140 t141 _ A5.out).mono ?_); rintro e w48 ⟨rfl, hb⟩; have n0_ := Aside0.mk (below_step (by repeat (first | (with_reducible first | exact HB.out | apply below_alloc | apply pw_below_drewN | apply below_drew1) | exact HB.out)) hb); clear HB; have HB := n0_; clear n0_; (try clear hb); (try clear hb2); (try clear hk); (try clear hi)) | (go_at_call 38; (with_reducible refine (plexuslaw23_singleton.calls 5 3 t142 t143 _ A7.out).mono ?_); rintro e w49 ⟨rfl, hb⟩; have n0_ := Aside0.mk (below_step (by repeat (first | (with_reducible first | exact HB.out | apply below_alloc | apply pw_below_drewN | apply below_drew1) | exact HB.out)) hb); clear HB; have HB := n0_; clear n0_; (try clear hb); (try clear hb2); (try clear hk); (try clear hi)) | (go_at_call 54; (with_reducible refine (plexuslaw23_is.calls 8 t144 t145 _ A8.out).mono ?_); rintro e w50 ⟨rfl, hb⟩; have n0_ := Aside0.mk (below_step (by repeat (first | (with_reducible first | exact HB.out | apply below_alloc | apply pw_below_drewN | apply below_drew1) | exact HB.out)) hb); clear HB; have HB := n0_; clear n0_; (try clear hb); (try clear hb2); (try clear hk); (try clear hi); clear A8) | (go_at_call 40; (with_reducible refine (plexuslaw23_plotkin.calls k 5 3 t146 t147 _ A10.out).mono ?_); rintro e w51 ⟨rfl, hb⟩; have n0_ := Aside0.mk (below_step (by repeat (first | (with_reducible first | exact HB.out | apply below_alloc | apply pw_below_drewN | apply below_drew1) | exact HB.out)) hb); clear HB; have HB := n0_; clear n0_; (try clear hb); (try clear hb2); (try clear hk); (try clear hi)) | (go_at_call 54; (with_reducible refine (plexuslaw23_is.calls 4 t148 t149 _ A11.out).mono ?_); rintro e w52 ⟨rfl, hb⟩; have n0_ := Aside0.mk (below_step (by repeat (first | (with_reducible first | exact HB.out | apply below_alloc | apply pw_below_drewN | apply below_drew1) | exact HB.out)) hb); clear HB; have HB := n0_; clear n0_; (try clear hb); (try clear hb2); (try clear hk); (try clear hi); clear A11) | (go_at_call 40; (with_reducible refine (plexuslaw23_plotkin.calls k 8 4 t150 t151 _ A13.out).mono ?_); rintro e w53 ⟨rfl, hb⟩; have n0_ := Aside0.mk (below_step (by repeat (first | (with_reducible first | exact HB.out | apply below_alloc | apply pw_below_drewN | apply below_drew1) | exact HB.out)) hb); clear HB; have HB := n0_; clear n0_; (try clear hb); (try clear hb2); (try clear hk); (try clear hi)) | (go_at_call 54; (with_reducible refine (plexuslaw23_is.calls 16 t152 t153 _ A14.out).mono ?_); rintro e w54 ⟨rfl, hb⟩; have n0_ := Aside0.mk (below_step (by repeat (first | (with_reducible first | exact HB.out | apply below_alloc | apply pw_below_drewN | apply below_drew1) | exact HB.out)) hb); clear HB; have HB := n0_; clear n0_; (try clear hb); (try clear hb2); (try clear hk); (try clear hi); clear A14) | (go_at_call 40; (with_reducible refine (plexuslaw23_plotkin.calls k 6 4 t154 t155 _ A16.out).mono ?_); rintro e w55 ⟨rfl, hb⟩; have n0_ := Aside0.mk (below_step (by repeat (first | (with_reducible first | exact HB.out | apply below_alloc | apply pw_below_drewN | apply below_drew1) | exact HB.out)) hb); clear HB; have HB := n0_; clear n0_; (try clear hb); (try clear hb2); (try clear hk); (try clear hi)) | (go_at_call 54; (with_reducible refine (plexuslaw23_is.calls 4 t156 t157 _ A17.out).mono ?_); rintro e w56 ⟨rfl, hb⟩; have n0_ := Aside0.mk (below_step (by repeat (first | (with_reducible first | exact HB.out | apply below_alloc | apply pw_below_drewN | apply below_drew1) | exact HB.out)) hb); clear HB; have HB := n0_; clear n0_; (try clear hb); (try clear hb2); (try clear hk); (try clear hi); clear A17) | (go_at_call 40; (with_reducible refine (plexuslaw23_plotkin.calls k 9 4 t158 t159 _ A19.out).mono ?_); rintro e w57 ⟨rfl, hb⟩; have n0_ := Aside0.mk (below_step (by repeat (first | (with_reducible first | exact HB.out | apply below_alloc | apply pw_below_drewN | apply below_drew1) | exact HB.out)) hb); clear HB; have HB := n0_; clear n0_; (try clear hb); (try clear hb2); (try clear hk); (try clear hi)) | ((with_reducible refine gate_callee (f := 44) rfl ?_); refine goesL_ (some 35) rfl rfl Try.func44 (by kernel_rfl) rfl #[.int .i64 5, .int .i64 3] rfl (by (try simp only [List.map_toArray, List.map_cons, List.map_nil]); first | done | rfl | (simp only [List.length_drop, List.length_take]; rfl)) ?_; (with_reducible refine (plexuslaw23_best.calls k 5 3 t160 t161 _ A21.out).mono ?_); rintro e w58 ⟨rfl, hb⟩; refine ⟨_, rfl, ?_⟩; have n0_ := Aside0.mk (below_step (by repeat (first | (with_reducible first | exact HB.out | apply below_alloc | apply pw_below_drewN | apply below_drew1) | exact HB.out)) hb); clear HB; have HB := n0_; clear n0_; (try clear hb); (try clear hb2); (try clear hk); (try clear hi)) | ((with_reducible refine gate_callee (f := 54) rfl ?_); refine goesL_ (some 36) rfl rfl Try.func54 (by kernel_rfl) rfl #[.int .i64 4] rfl (by (try simp only [List.map_toArray, List.map_cons, List.map_nil]); first | done | rfl | (simp only [List.length_drop, List.length_take]; rfl)) ?_; (with_reducible refine (plexuslaw23_is.calls 4 t162 t163 _ A22.out).mono ?_); rintro e w59 ⟨rfl, hb⟩; refine ⟨_, rfl, ?_⟩; have n0_ := Aside0.mk (below_step (by repeat (first | (with_reducible first | exact HB.out | apply below_alloc | apply pw_below_drewN | apply below_drew1) | exact HB.out)) hb); clear HB; have HB := n0_; clear n0_; (try clear hb); (try clear hb2); (try clear hk); (try clear hi); clear A22) | (go_at_call 44; (with_reducible refine (plexuslaw23_best.calls k 6 3 t164 t165 _ A24.out).mono ?_); rintro e w60 ⟨rfl, hb⟩; have n0_ := Aside0.mk (below_step (by repeat (first | (with_reducible first | exact HB.out | apply below_alloc | apply pw_below_drewN | apply below_drew1) | exact HB.out)) hb); clear HB; have HB := n0_; clear n0_; (try clear hb); (try clear hb2); (try clear hk); (try clear hi)) | (go_at_call 54; (with_reducible refine (plexuslaw23_is.calls 8 t166 t167 _ A25.out).mono ?_); rintro e w61 ⟨rfl, hb⟩; have n0_ := Aside0.mk (below_step (by repeat (first | (with_reducible first | exact HB.out | apply below_alloc | apply pw_below_drewN | apply below_drew1) | exact HB.out)) hb); clear HB; have HB := n0_; clear n0_; (try clear hb); (try clear hb2); (try clear hk); (try clear hi); clear A25) | (go_at_call 44; (with_reducible refine (plexuslaw23_best.calls k 7 3 t168 t169 _ A27.out).mono ?_); rintro e w62 ⟨rfl, hb⟩; have n0_ := Aside0.mk (below_step (by repeat (first | (with_reducible first | exact HB.out | apply below_alloc | apply pw_below_drewN | apply below_drew1) | exact HB.out)) hb); clear HB; have HB := n0_; clear n0_; (try clear hb); (try clear hb2); (try clear hk); (try clear hi)) | (go_at_call 54; (with_reducible refine (plexuslaw23_is.calls 16 t170 t171 _ A28.out).mono ?_); rintro e w63 ⟨rfl, hb⟩; have n0_ := Aside0.mk (below_step (by repeat (first | (with_reducible first | exact HB.out | apply below_alloc | apply pw_below_drewN | apply below_drew1) | exact HB.out)) hb); clear HB; have HB := n0_; clear n0_; (try clear hb); (try clear hb2); (try clear hk); (try clear hi); clear A28) | (go_at_call 42; (with_reducible refine (plexuslaw23_griesmer.calls k 4 3 t172 t173 _ A30.out).mono ?_); rintro e w64 ⟨rfl, hb⟩; have n0_ := Aside0.mk (below_step (by repeat (first | (with_reducible first | exact HB.out | apply below_alloc | apply pw_below_drewN | apply below_drew1) | exact HB.out)) hb); clear HB; have HB := n0_; clear n0_; (try clear hb); (try clear hb2); (try clear hk); (try clear hi)) | (go_at_call 54; (with_reducible refine (plexuslaw23_is.calls 7 t174 t175 _ A31.out).mono ?_); rintro e w65 ⟨rfl, hb⟩; have n0_ := Aside0.mk (below_step (by repeat (first | (with_reducible first | exact HB.out | apply below_alloc | apply pw_below_drewN | apply below_drew1) | exact HB.out)) hb); clear HB; have HB := n0_; clear n0_; (try clear hb); (try clear hb2); (try clear hk); (try clear hi); clear A31) | (go_at_call 42; (with_reducible refine (plexuslaw23_griesmer.calls k 3 4 t176 t177 _ A33.out).mono ?_); rintro e w66 ⟨rfl, hb⟩; have n0_ := Aside0.mk (below_step (by repeat (first | (with_reducible first | exact HB.out | apply below_alloc | apply pw_below_drewN | apply below_drew1) | exact HB.out)) hb); clear HB; have HB := n0_; clear n0_; (try clear hb); (try clear hb2); (try clear hk); (try clear hi)) | (go_at_call 54; (with_reducible refine (plexuslaw23_is.calls 7 t178 t179 _ A34.out).mono ?_); rintro e w67 ⟨rfl, hb⟩; have n0_ := Aside0.mk (below_step (by repeat (first | (with_reducible first | exact HB.out | apply below_alloc | apply pw_below_drewN | apply below_drew1) | exact HB.out)) hb); clear HB; have HB := n0_; clear n0_; (try clear hb); (try clear hb2); (try clear hk); (try clear hi); clear A34) | (go_at_call 44; (with_reducible refine (plexuslaw23_best.calls k 3 4 t180 t181 _ A36.out).mono ?_); rintro e w68 ⟨rfl, hb⟩; have n0_ := Aside0.mk (below_step (by repeat (first | (with_reducible first | exact HB.out | apply below_alloc | apply pw_below_drewN | apply below_drew1) | exact HB.out)) hb); clear HB; have HB := n0_; clear n0_; (try clear hb); (try clear hb2); (try clear hk); (try clear hi)) | (go_at_call 42; (with_reducible refine (plexuslaw23_griesmer.calls k 0 1 t182 t183 _ A38.out).mono ?_); rintro e w69 ⟨rfl, hb⟩; have n0_ := Aside0.mk (below_step (by repeat (first | (with_reducible first | exact HB.out | apply below_alloc | apply pw_below_drewN | apply below_drew1) | exact HB.out)) hb); clear HB; have HB := n0_; clear n0_; (try clear hb); (try clear hb2); (try clear hk); (try clear hi)) | ((with_reducible refine gate_callee (f := 46) rfl ?_); refine goesL_ (some 68) rfl rfl Try.func46 (by kernel_rfl) rfl #[.int .i64 5, .int .i64 3] rfl (by (try simp only [List.map_toArray, List.map_cons, List.map_nil]); first | done | rfl | (simp only [List.length_drop, List.length_take]; rfl)) ?_; (with_reducible refine (plexuslaw23_greedy.calls k 5 3 t184 t187 _ A40.out).mono ?_); rintro e w70 ⟨v185, rfl, ho0, hb⟩; refine ⟨_, rfl, ?_⟩; have n0_ := Aside0.mk (Kd.R_lower ho0 (below_size (by repeat (first | (with_reducible first | exact HB.out | apply below_alloc | apply pw_below_drewN | apply below_drew1) | exact HB.out)))); have n1_ := Aside0.mk (below_step (by repeat (first | (with_reducible first | exact HB.out | apply below_alloc | apply pw_below_drewN | apply below_drew1) | exact HB.out)) hb); clear HB; have HO186 := n0_; have HB := n1_; clear n0_ n1_; (try clear hb); (try clear hb2); (try clear hk); (try clear hi); (try clear ho0)) | ((with_reducible refine gate_dst (N := 1) rfl ?_); (try (refine gate_guard (by rfl) ?_; dsimp only)); refine box_event ?hg (N := 1) ?hd (cs := #[.slice none 0 0, .int .i64 0]) (t := 55) ?hr ?_; (case hd => rfl); (case hg => rfl); (case hr => first | (go_simp; done) | (go_simp; rfl)); intro gb188 hg w71 hbox hb; have n0_ := Aside0.mk (Kd.R_below (by (with_reducible repeat (first | apply Kd.R_alloc | apply Kd.R_drewN | apply Kd.R_drew)); exact HO186.out) hb); have n1_ := Aside0.mk (below_step (by repeat (first | (with_reducible first | exact HB.out | apply below_alloc | apply pw_below_drewN | apply below_drew1) | exact HB.out)) hb); have n2_ := Aside0.mk (hbox); have n3_ := Aside0.mk ((by rw [hg]; exact (below_size (by repeat (first | (with_reducible first | exact HB.out | apply below_alloc | apply pw_below_drewN | apply below_drew1) | exact HB.out))) : w.heap.size ≤ gb188)); have n4_ := Aside0.mk ((by rw [hg]; exact (below_size (by repeat (first | (with_reducible first | exact HB.out | apply below_alloc | apply pw_below_drewN | apply below_drew1) | exact HB.out))) : w.heap.size ≤ gb188)); clear HO186; clear HB; have HO186 := n0_; have HB := n1_; have BK188 := n2_; have GW188 := n3_; have GE188 := n4_; clear n0_ n1_ n2_ n3_ n4_; clear hb hbox hg; obtain ⟨Ao72, co72, eo72⟩ := Kd.R_slice HO186.out; subst eo72; have hcz73_0 : w71.cell? ⟨gb188, 0, none⟩ = some (.slice none 0 0) := (blk_cell BK188.out 0).trans rfl; have hcz73_1 : w71.cell? ⟨gb188, 1, none⟩ = some (.int .i64 0) := (blk_cell BK188.out 1).trans rfl; have hfz73_0 := blk_frozen BK188.out 0; have hfz73_1 := blk_frozen BK188.out 1) | ((with_reducible refine gate_dst (N := 75) rfl ?_); (try (refine gate_guard (by rfl) ?_; dsimp only)); refine Kd.R_lit (Kd.int .i64) _ 3 ?hg (N := 75) ?hd (xs := ([0, 7, 25, 30] : List Int)) (inner := [.int .i64 0, .int .i64 7, .int .i64 25, .int .i64 30]) (ok := fun _ => True) (okp := fun _ => True) ?hr ?hp (fun _ hk => hk) trivial (Below.refl _ _) (Nat.le_refl _) (by simp) ?_; (case hd => rfl); (case hg => rfl); (case hr => first | (go_simp; done) | (go_simp; rfl)); (case hp => exact (Reps.one (show Kd.M (Kd.int .i64) _ _ _ 0 [.int .i64 0] from rfl) (Reps.one (show Kd.M (Kd.int .i64) _ _ _ 7 [.int .i64 7] from rfl) (Reps.one (show Kd.M (Kd.int .i64) _ _ _ 25 [.int .i64 25] from rfl) (Reps.one (show Kd.M (Kd.int .i64) _ _ _ 30 [.int .i64 30] from rfl) (Reps.none _ _)))))); intro v190 w74 ho75 hb hg_ hnew_; clear hg_ hnew_; (first | rw [← Ny189.out] at ho75 | (simp only [Int.reduceToNat] at ho75; rw [← Ny189.out] at ho75)); have n0_ := Aside0.mk (Kd.R_elder' (by (with_reducible repeat (first | apply Kd.R_alloc | apply Kd.R_drewN | apply Kd.R_drew)); exact (Kd.R_mono (Kd.R_far (p := ⟨gb188, 1, none⟩) (Kd.R_far (p := ⟨gb188, 0, none⟩) (Kd.R_types HO186.out BK188.out (by decide)) (fun _ hk => hk.2) (.slice Ao72 t184.length co72)) (fun _ hk => hk.2) (.int .i64 t187)) (fun _ h_ => h_.1))) (Kd.R_base ho75) hb); have n1_ := Aside0.mk (Kd.R_lower (Kd.R_new' ho75 (Kd.R_lt (by (with_reducible repeat (first | apply Kd.R_alloc | apply Kd.R_drewN | apply Kd.R_drew)); exact (Kd.R_mono (Kd.R_far (p := ⟨gb188, 1, none⟩) (Kd.R_far (p := ⟨gb188, 0, none⟩) (Kd.R_types HO186.out BK188.out (by decide)) (fun _ hk => hk.2) (.slice Ao72 t184.length co72)) (fun _ hk => hk.2) (.int .i64 t187)) (fun _ h_ => h_.1))))) (below_size (by repeat (first | (with_reducible first | exact HB.out | apply below_alloc | apply pw_below_drewN | apply below_drew1 | refine below_set ?_ GE188.out) | exact HB.out)))); have n2_ := Aside0.mk (blk_below (g := gb188) (o := .cells #[.slice Ao72 t184.length co72, .int .i64 t187] 55 (0, 0)) (by (with_reducible repeat (first | refine blk_drewN ?_ _ | refine blk_drew ?_ | refine blk_alloc ?_ _)); refine blk_put (cs := #[.slice Ao72 t184.length co72, .int .i64 0]) ?_ 1 _ rfl; (with_reducible repeat (first | refine blk_drewN ?_ _ | refine blk_drew ?_ | refine blk_alloc ?_ _)); refine blk_put (cs := #[.slice none 0 0, .int .i64 0]) ?_ 0 _ rfl; (with_reducible repeat (first | refine blk_drewN ?_ _ | refine blk_drew ?_ | refine blk_alloc ?_ _)); exact BK188.out) hb); have n3_ := Aside0.mk (below_step (by repeat (first | (with_reducible first | exact HB.out | apply below_alloc | apply pw_below_drewN | apply below_drew1 | refine below_set ?_ GE188.out) | exact HB.out)) hb); clear HO186; clear BK188; clear HB; have HO186 := n0_; have HO191 := n1_; have BK188 := n2_; have HB := n3_; clear n0_ n1_ n2_ n3_; clear hb ho75; obtain ⟨Ao76, co76, eo76⟩ := Kd.R_slice HO191.out; subst eo76) | (go_at_call 48; (with_reducible refine (plexuslaw23_same.calls k _ _ t184 _ _ y189 true _ ?side1 ?side2 ?side3 ?side4 A42.out).mono ?_); (case side1 => repeat (first | exact (Kd.R_reads' HO186.out).2.2 | (with_reducible refine Kd.C_alloc ?_ _) | (with_reducible refine Kd.C_drewN ?_ _) | (with_reducible refine Kd.C_drew ?_))); (case side2 => exact (Kd.R_reads' HO186.out).2.1); (case side3 => repeat (first | exact (Kd.R_reads' HO191.out).2.2 | (with_reducible refine Kd.C_alloc ?_ _) | (with_reducible refine Kd.C_drewN ?_ _) | (with_reducible refine Kd.C_drew ?_))); (case side4 => exact (Kd.R_reads' HO191.out).2.1); rintro e w' ⟨rfl, ⟨nd, rfl⟩⟩) | (go_at_call 46; (with_reducible refine (plexuslaw23_greedy.calls k 11 3 t193 t196 _ A44.out).mono ?_); rintro e w77 ⟨v194, rfl, ho0, hb⟩; have n0_ := Aside0.mk (Kd.R_elder' (by (with_reducible repeat (first | apply Kd.R_alloc | apply Kd.R_drewN | apply Kd.R_drew)); exact HO186.out) (Kd.R_base ho0) hb); have n1_ := Aside0.mk (Kd.R_elder' (by (with_reducible repeat (first | apply Kd.R_alloc | apply Kd.R_drewN | apply Kd.R_drew)); exact HO191.out) (Kd.R_base ho0) hb); have n2_ := Aside0.mk (Kd.R_lower (Kd.R_new' (Kd.R_new' ho0 (Kd.R_lt (by (with_reducible repeat (first | apply Kd.R_alloc | apply Kd.R_drewN | apply Kd.R_drew)); exact HO186.out))) (Kd.R_lt (by (with_reducible repeat (first | apply Kd.R_alloc | apply Kd.R_drewN | apply Kd.R_drew)); exact HO191.out))) (below_size (by repeat (first | (with_reducible first | exact HB.out | apply below_alloc | apply pw_below_drewN | apply below_drew1 | refine below_set ?_ GE188.out) | exact HB.out)))); have n3_ := Aside0.mk (blk_below (g := gb188) (o := .cells #[.slice Ao72 t184.length co72, .int .i64 t187] 55 (0, 0)) (by (with_reducible repeat (first | refine blk_drewN ?_ _ | refine blk_drew ?_ | refine blk_alloc ?_ _)); exact BK188.out) hb); have n4_ := Aside0.mk (below_step (by repeat (first | (with_reducible first | exact HB.out | apply below_alloc | apply pw_below_drewN | apply below_drew1 | refine below_set ?_ GE188.out) | exact HB.out)) hb); clear HO186; clear HO191; clear BK188; clear HB; have HO186 := n0_; have HO191 := n1_; have HO195 := n2_; have BK188 := n3_; have HB := n4_; clear n0_ n1_ n2_ n3_ n4_; (try clear hb); (try clear hb2); (try clear hk); (try clear hi); (try clear ho0)))
                                  go_ret
                                  exact ⟨by first | rfl | (simp [errW_none, errW_some] <;> rfl) | (simp [*, errW_none, errW_some] <;> rfl), by repeat (first | (with_reducible first | exact HB.out | apply below_alloc | apply pw_below_drewN | apply below_drew1 | refine below_set ?_ GE188.out) | exact HB.out)⟩
                                · replace c43 := Bool.eq_false_iff.mpr c43
                                  subst c43
                                  have H1 : (none) = some r := by rw [if_neg (show ¬ (false = true) by decide)] at H; exact H
                                  clear H
                                  have H := H1
                                  clear H1
                                  exact absurd H (by simp)
                              · rw [if_neg c41] at H
                                exact absurd H (by simp)
                            · rw [if_neg c39] at H
                              exact absurd H (by simp)
                          · rw [if_neg c37] at H
                            exact absurd H (by simp)
              · rw [if_neg c20] at H
                exact absurd H (by simp)

/-! ### plexusref23_Power: function 51 -/
def plexusref23_Power.f (a0 : Int) : Option (Int) := if 0 ≤ (IntKind.u64.wrap (a0)) then (some (shl .i64 1 (IntKind.u64.wrap (a0)))) else (none)
set_option maxHeartbeats 8000000 in
set_option maxRecDepth 100000 in
theorem plexusref23_Power.calls (a0 : Int) (r : Int) (w : World) (h : plexusref23_Power.f a0 = some r) :
    Calls Try.prog 51 #[.int .i64 a0] w fun e w' => e = .returned (.int .i64 r) ∧ Drawn0 w w' := by
  have H : (if 0 ≤ (IntKind.u64.wrap (a0)) then (some (shl .i64 1 (IntKind.u64.wrap (a0)))) else (none)) = some r := h
  clear h
  obtain ⟨ji2, hji2⟩ : ∃ j_ : Int, (IntKind.u64.wrap (a0)) = j_ := ⟨_, rfl⟩
  replace H : (if 0 ≤ (ji2) then (some (shl .i64 1 (ji2))) else (none)) = some r := by first | (rw [hji2] at H; exact H) | (simp only [hji2] at H ⊢; exact H)
  by_cases c3 : 0 ≤ (ji2)
  · rw [if_pos c3] at H
    have c3b0 := eq_true c3
    have c3b1 : decide (0 ≤ (ji2)) = true := decide_eq_true c3
    clear c3
    obtain ⟨ji4, hji4⟩ : ∃ j_ : Int, (shl .i64 1 (ji2)) = j_ := ⟨_, rfl⟩
    replace H : (some ji4) = some r := by first | (rw [hji4] at H; exact H) | (simp only [hji4] at H ⊢; exact H)
    have hji4_ : (IntKind.i64.wrap (1 * 2 ^ min (ji2).toNat 64)) = ji4 := hji4
    have hji4z : (ji2) ≤ 64 → (IntKind.i64.wrap (1 * 2 ^ (ji2).toNat)) = ji4 := shl_small hji4
    have hji4u : (IntKind.i64.wrap (2 ^ min (ji2).toNat 64)) = ji4 := by have h_ := hji4_; rw [Int.one_mul] at h_; exact h_
    have hji4v : (ji2) ≤ 64 → (IntKind.i64.wrap (2 ^ (ji2).toNat)) = ji4 := fun hle_ => by have h_ := hji4z hle_; rw [Int.one_mul] at h_; exact h_
    have hji4y : (wrap64 (1 * 2 ^ min (ji2).toNat 64)) = ji4 := (i64_w _).symm.trans hji4_
    have hji4x : (ji2) ≤ 64 → (wrap64 (1 * 2 ^ (ji2).toNat)) = ji4 := fun h_ => (i64_w _).symm.trans (hji4z h_)
    obtain rfl := Option.some.inj H
    go_enter Try.func51, Try.ntmps51
    go_wp2
    go_ret
    exact ⟨by first | rfl | (simp; done) | (simp only [← hji2, ← hji4] <;> (first | rfl | simp)) | (simp [*]; done), by repeat (first | exact Drawn0.refl _ | apply Drawn0.step)⟩
  · rw [if_neg c3] at H
    exact absurd H (by simp)

/-! ### plexusref23_Fine: function 87 -/
def plexusref23_Fine.f (a0 : Int) (a1 : Int) (a2 : Int) : Option (Bool) := if a2 ≥ 1 then (if a2 ≤ a1 then (some (decide (a1 ≤ a0))) else (some false)) else (some false)
set_option maxHeartbeats 8000000 in
set_option maxRecDepth 100000 in
theorem plexusref23_Fine.calls (a0 : Int) (a1 : Int) (a2 : Int) (r : Bool) (w : World) (h : plexusref23_Fine.f a0 a1 a2 = some r) :
    Calls Try.prog 87 #[.int .i64 a0, .int .i64 a1, .int .i64 a2] w fun e w' => e = .returned (.bool r) ∧ Drawn0 w w' := by
  have H : (if a2 ≥ 1 then (if a2 ≤ a1 then (some (decide (a1 ≤ a0))) else (some false)) else (some false)) = some r := h
  clear h
  by_cases c4 : a2 ≥ 1
  · rw [if_pos c4] at H
    have c4b0 : decide (1 ≤ a2) = true := decide_eq_true c4
    clear c4
    by_cases c5 : a2 ≤ a1
    · rw [if_pos c5] at H
      have c5b0 : decide (a2 ≤ a1) = true := decide_eq_true c5
      clear c5
      obtain rfl := Option.some.inj H
      go_enter Try.func87, Try.ntmps87
      go_wp2
      go_ret
      exact ⟨by first | rfl | (simp; done) | (simp [*]; done), by repeat (first | exact Drawn0.refl _ | apply Drawn0.step)⟩
    · rw [if_neg c5] at H
      have c5b0 : decide (a2 ≤ a1) = false := decide_eq_false c5
      clear c5
      obtain rfl := Option.some.inj H
      go_enter Try.func87, Try.ntmps87
      go_wp2
      go_ret
      exact ⟨by first | rfl | (simp; done) | (simp [*]; done), by repeat (first | exact Drawn0.refl _ | apply Drawn0.step)⟩
  · rw [if_neg c4] at H
    have c4b0 : decide (1 ≤ a2) = false := decide_eq_false c4
    clear c4
    obtain rfl := Option.some.inj H
    go_enter Try.func87, Try.ntmps87
    go_wp2
    go_ret
    exact ⟨by first | rfl | (simp; done) | (simp [*]; done), by repeat (first | exact Drawn0.refl _ | apply Drawn0.step)⟩

end Go.Proofs.Ytcanekmlabehgaa.P
