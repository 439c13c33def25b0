/- The row EditionChanges: whatever the input, the answer is true, and the input reads as it did. Under no condition. -/
import Derived.Test.YtjnpcpnjcieheaaGreatRows
import Derived.Test.YtjnpcpnjcieheaaGreatVC
import Derived.Test.YtjnpcpnjcieheaaGreatPureEditionChanges
import Derived.Test.YtjnpcpnjcieheaaGreatFacts1
import Derived.Test.YtjnpcpnjcieheaaGreatFacts2
import Derived.Test.YtjnpcpnjcieheaaGreatFacts3
namespace Go.Proofs.YtjnpcpnjcieheaaGreat.editionChanges
open Go Go.ChangeShapes Go.WideShapes Go.ChangeAt Go.RowKit Go.Proofs.YtjnpcpnjcieheaaGreatX Go.Proofs.YtjnpcpnjcieheaaGreatW.PrintWords
open Go.ChangeMaps (open_string shut_string)
open Go.Vx (K)
set_option linter.unusedVariables false
theorem own : ownKnob Tryz.prog.godebug = none := by kernel_rfl
theorem laidOut : laidOutB Tryz.prog = true := by kernel_rfl
abbrev argK : Vx.K := (.pair (K.pair (K.int IntKind.u64) (K.slice (K.pair (K.int IntKind.u8) (K.pair (K.int IntKind.u8) (K.slice (K.slice (K.int IntKind.u8))))))) (.pair (K.pair (K.int IntKind.u8) (K.pair (K.int IntKind.u8) (K.int IntKind.u8))) (K.int IntKind.u64)))
theorem walk (W : World) (x : argK.T) (cells : List Value) (hR : Vx.Rd W (fun b => b < W.heap.size) argK x cells) (hx : Vx.WF argK x) :
    Calls Tryz.prog 4 (Vx.joinA [some 2, some 3, none] cells).toArray W fun e W' => e = .returned (.bool true) ∧ Below W.heap.size W W' := by
  obtain ⟨k, h⟩ := Pure.EditionChanges x hx
  have e : V48.plexuslaw48_EditionChanges.sp k = ⟨[some 2, some 3, none], argK, [.im .bool], .one none, false, fun (x : argK.T) => V48.plexuslaw48_EditionChanges.m k x.1 x.2.1 x.2.2⟩ := by kernel_rfl
  have q := @Vx.Good.law Tryz.prog 4 (V48.plexuslaw48_EditionChanges.sp k) [some 2, some 3, none] argK false (fun (x : argK.T) => V48.plexuslaw48_EditionChanges.m k x.1 x.2.1 x.2.2) (V48.plexuslaw48_EditionChanges.good k) e x h W cells
  exact q hR
set_option maxRecDepth 100000 in
theorem lifted (os : Os) (started : os.Started) (H : Type) (enc : TypeId × Value → H) :
    ReturnsInHanded {} Tryz.checked os 4 .any (Rows.editionChangesSpec.pre6 enc Tryz.prog Tryz.f4 Rows.editionChangesRow.domain false) (Rows.editionChangesSpec.post enc Tryz.prog Tryz.f4 false true false false) := by
  refine returnsInHanded_of_change_sized (C := Tryz.checked) own started (by kernel_rfl) Tryz.func4
    (ChangeSpec.witness6 (enc := enc) (C := Tryz.checked) false ⟨#[], #[(.agg #[(.int .u64 0), (.slice none 0 0)]), (.agg #[(.int .u8 0), (.int .u8 0), (.int .u8 0)]), (.int .u64 0)], []⟩ 8 (by kernel_rfl) (by kernel_rfl) (by kernel_rfl) (by kernel_rfl)) ?_
  intro W base args ds gs before hval0 hW hcnd hsz0 _
  have hsz : (DataW.weightsEach Tryz.prog (Tryz.f4.params.toList ++ Rows.editionChangesSpec.plain.varTypes Tryz.prog) (ds ++ gs)).all (· ≤ reachBytes) = true := hsz0
  have hval : ∀ (j : Nat) t v, Tryz.f4.params[j]? = some t → args[j]? = some v → Value.okWide Tryz.prog W .any base t v := hval0
  have hW' := hW
  obtain ⟨p, q, hA0, hV, rfl, hfz, hnd⟩ := hW
  have hA : DataW.TrodAll enc Tryz.prog W 0 (fun _ => true) true Tryz.f4.params.toList args.toList ds p := hA0
  rw [Tryz.params4] at hA hval hsz
  obtain ⟨rfl, rfl⟩ := trodVars_none hV
  obtain ⟨x, cells, hargs, hR, hx⟩ := Vx.args_open (P := Tryz.prog) (ts := [25, 46, 22]) (shapes := [some 2, some 3, none]) (argK := argK) (by kernel_rfl) hA (Vx.weights_of hsz (Vx.trodAll_len hA)) (fun j t v ht hv => hval j t v (by simpa using ht) (by simpa using hv))
  obtain rfl : args = (Vx.joinA [some 2, some 3, none] cells).toArray := by cases args; simp_all
  have hlen := Vx.trodAll_len hA
  obtain ⟨d0, d1, d2, rfl⟩ : ∃ d0 d1 d2, ds = [d0, d1, d2] := by
    match ds, hlen with
    | [d0, d1, d2], _ => exact ⟨d0, d1, d2, rfl⟩
  refine (walk W x cells hR hx).mono fun e W' ⟨he, bel⟩ => ?_
  subst he
  exact ⟨_, rfl, _, _, _, [], _, [], hW', trodAll_mk1 (shut_bool Tryz.underlying4 _), Vx.trodAll_below laidOut bel (by kernel_rfl) hA, rfl, bel.frame _, fun h => by cases h⟩
theorem closed : joinedFacts Tryz.prog 4 Tryz.f4 Rows.editionChangesSpec Rows.editionChangesRow = true := by
  unfold joinedFacts
  rw [enters, lifts, makes]
  kernel_rfl
theorem over : Rows.editionChangesRow.holds Tryz.pinned (OpenSpec.ofChange Rows.editionChangesSpec) :=
  OpenClaim.holds_of_wide 4 Tryz.f4 rfl rfl rfl rfl rfl rfl rfl ⟨rfl, rfl, rfl, rfl, rfl⟩ rfl rfl rfl rfl rfl (by kernel_rfl) Tryz.func4 closed
    (of_decide_eq_true (by kernel_rfl)) (by unfold Func.isWrapper; first | (rw [if_pos (by decide +kernel)]; kernel_rfl) | (rw [if_neg (by decide +kernel)]; exact ⟨rfl, rfl⟩))
    (fun os started H enc _ => lifted os started H enc)
theorem proved : Rows.EditionChangesSaid := over
#print axioms proved
end Go.Proofs.YtjnpcpnjcieheaaGreat.editionChanges
namespace Go.Proofs.YtjnpcpnjcieheaaGreat
/-- The row, under a short name, for the claim. -/
theorem editionChanges_holds : Rows.EditionChangesSaid := editionChanges.proved
end Go.Proofs.YtjnpcpnjcieheaaGreat
