/- The row ExcludeMatchesReference: whatever the input, the answer is true, and the input reads as it did. Under no condition. -/
import Derived.Test.YtokaigninenjhaaRows
import Derived.Test.YtokaigninenjhaaVC
import Derived.Test.YtokaigninenjhaaPureExcludeMatchesReference
import Derived.Test.YtokaigninenjhaaFacts1
import Derived.Test.YtokaigninenjhaaFacts2
import Derived.Test.YtokaigninenjhaaFacts3
namespace Go.Proofs.Ytokaigninenjhaa.excludeMatchesReference
open Go Go.ChangeShapes Go.WideShapes Go.ChangeAt Go.RowKit Go.Proofs.YtokaigninenjhaaX Go.Proofs.YtokaigninenjhaaW.PrintWords
open Go.ChangeMaps (open_string shut_string)
open Go.Vx (K)
set_option linter.unusedVariables false
theorem own : ownKnob Try.prog.godebug = none := by kernel_rfl
theorem laidOut : laidOutB Try.prog = true := by kernel_rfl
abbrev argK : Vx.K := (.pair (K.pair (K.int IntKind.u8) (K.pair (K.int IntKind.u8) (K.pair (K.int IntKind.u8) (K.int IntKind.u8)))) (.pair (K.pair (K.int IntKind.i64) (K.pair (K.int IntKind.i64) (K.pair (K.int IntKind.i64) (K.int IntKind.i64)))) (K.pair (K.int IntKind.i64) (K.pair (K.int IntKind.i64) (K.int IntKind.i64)))))
theorem walk (W : World) (x : argK.T) (cells : List Value) (hR : Vx.Rd W (fun b => b < W.heap.size) argK x cells) (hx : Vx.WF argK x) :
    Calls Try.prog 3 (Vx.joinA [some 4, some 4, some 3] cells).toArray W fun e W' => e = .returned (.bool true) ∧ Below W.heap.size W W' := by
  obtain ⟨k, h⟩ := Pure.ExcludeMatchesReference x hx
  have e : V22.plexuslaw24_ExcludeMatchesReference.sp k = ⟨[some 4, some 4, some 3], argK, [.im .bool], .one none, false, fun (x : argK.T) => V22.plexuslaw24_ExcludeMatchesReference.m k x.1 x.2.1 x.2.2⟩ := by kernel_rfl
  have q := @Vx.Good.law Try.prog 3 (V22.plexuslaw24_ExcludeMatchesReference.sp k) [some 4, some 4, some 3] argK false (fun (x : argK.T) => V22.plexuslaw24_ExcludeMatchesReference.m k x.1 x.2.1 x.2.2) (V22.plexuslaw24_ExcludeMatchesReference.good k) e x h W cells
  exact q hR
set_option maxRecDepth 100000 in
theorem lifted (os : Os) (started : os.Started) (H : Type) (enc : TypeId × Value → H) :
    ReturnsInHanded {} Try.checked os 3 .any (Rows.excludeMatchesReferenceSpec.pre6 enc Try.prog Try.f3 Rows.excludeMatchesReferenceRow.domain false) (Rows.excludeMatchesReferenceSpec.post enc Try.prog Try.f3 false true false false) := by
  refine returnsInHanded_of_change_sized (C := Try.checked) own started (by kernel_rfl) Try.func3
    (ChangeSpec.witness6 (enc := enc) (C := Try.checked) false ⟨#[], #[(.agg #[(.int .u8 0), (.int .u8 0), (.int .u8 0), (.int .u8 0)]), (.agg #[(.int .i64 0), (.int .i64 0), (.int .i64 0), (.int .i64 0)]), (.agg #[(.int .i64 0), (.int .i64 0), (.int .i64 0)])], []⟩ 8 (by kernel_rfl) (by kernel_rfl) (by kernel_rfl) (by kernel_rfl)) ?_
  intro W base args ds gs before hval0 hW hcnd hsz0 _
  have hsz : (DataW.weightsEach Try.prog (Try.f3.params.toList ++ Rows.excludeMatchesReferenceSpec.plain.varTypes Try.prog) (ds ++ gs)).all (· ≤ reachBytes) = true := hsz0
  have hval : ∀ (j : Nat) t v, Try.f3.params[j]? = some t → args[j]? = some v → Value.okWide Try.prog W .any base t v := hval0
  have hW' := hW
  obtain ⟨p, q, hA0, hV, rfl, hfz, hnd⟩ := hW
  have hA : DataW.TrodAll enc Try.prog W 0 (fun _ => true) true Try.f3.params.toList args.toList ds p := hA0
  rw [Try.params3] at hA hval hsz
  obtain ⟨rfl, rfl⟩ := trodVars_none hV
  obtain ⟨x, cells, hargs, hR, hx⟩ := Vx.args_open (P := Try.prog) (ts := [22, 24, 26]) (shapes := [some 4, some 4, some 3]) (argK := argK) (by kernel_rfl) hA (Vx.weights_of hsz (Vx.trodAll_len hA)) (fun j t v ht hv => hval j t v (by simpa using ht) (by simpa using hv))
  obtain rfl : args = (Vx.joinA [some 4, some 4, some 3] cells).toArray := by cases args; simp_all
  have hlen := Vx.trodAll_len hA
  obtain ⟨d0, d1, d2, rfl⟩ : ∃ d0 d1 d2, ds = [d0, d1, d2] := by
    match ds, hlen with
    | [d0, d1, d2], _ => exact ⟨d0, d1, d2, rfl⟩
  refine (walk W x cells hR hx).mono fun e W' ⟨he, bel⟩ => ?_
  subst he
  exact ⟨_, rfl, _, _, _, [], _, [], hW', trodAll_mk1 (shut_bool Try.underlying4 _), Vx.trodAll_below laidOut bel (by kernel_rfl) hA, rfl, bel.frame _, fun h => by cases h⟩
theorem closed : joinedFacts Try.prog 3 Try.f3 Rows.excludeMatchesReferenceSpec Rows.excludeMatchesReferenceRow = true := by
  unfold joinedFacts
  rw [enters, lifts, makes]
  kernel_rfl
theorem over : Rows.excludeMatchesReferenceRow.holds Try.pinned (OpenSpec.ofChange Rows.excludeMatchesReferenceSpec) :=
  OpenClaim.holds_of_wide 3 Try.f3 rfl rfl rfl rfl rfl rfl rfl ⟨rfl, rfl, rfl, rfl, rfl⟩ rfl rfl rfl rfl rfl (by kernel_rfl) Try.func3 closed
    (of_decide_eq_true (by kernel_rfl)) (by unfold Func.isWrapper; first | (rw [if_pos (by decide +kernel)]; kernel_rfl) | (rw [if_neg (by decide +kernel)]; exact ⟨rfl, rfl⟩))
    (fun os started H enc _ => lifted os started H enc)
theorem proved : Rows.ExcludeMatchesReferenceSaid := over
#print axioms proved
end Go.Proofs.Ytokaigninenjhaa.excludeMatchesReference
namespace Go.Proofs.Ytokaigninenjhaa
/-- The row, under a short name, for the claim. -/
theorem excludeMatchesReference_holds : Rows.ExcludeMatchesReferenceSaid := excludeMatchesReference.proved
end Go.Proofs.Ytokaigninenjhaa
