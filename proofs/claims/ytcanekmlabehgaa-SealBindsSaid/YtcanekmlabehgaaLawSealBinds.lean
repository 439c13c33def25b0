-- the row of the law plexuslaw03_SealBinds, out of its Pure and the printed walk; written by xprint.py
import Derived.Test.YtcanekmlabehgaaRows
import Derived.Test.YtcanekmlabehgaaVsBinds
import Derived.Test.YtcanekmlabehgaaPureSealBinds
import Derived.Test.YtcanekmlabehgaaXOpens
import Derived.Test.YtcanekmlabehgaaFacts1
import Derived.Test.YtcanekmlabehgaaFacts2
import Derived.Test.YtcanekmlabehgaaFacts3
import Derived.WalkKit
import Derived.ProofKit
import Derived.OpenShut
import Derived.ShutString
import Derived.ChangeOld
import Derived.Below
import Derived.SizedLaws
namespace Go.Proofs.Ytcanekmlabehgaa.sealBinds
open Go.ChangeShapes Go.WideShapes Go.ChangeAt Go.RowKit Go.Proofs.YtcanekmlabehgaaX Go.Proofs.Ytcanekmlabehgaa.P03 Go.Proofs.YtcanekmlabehgaaW.PrintWords
open Go.ChangeMaps (open_string shut_string)
set_option linter.unusedVariables false
theorem own : ownKnob Try.prog.godebug = none := by kernel_rfl
theorem laidOut : laidOutB Try.prog = true := by kernel_rfl
theorem opens_T59 : Opens Try.prog 59 k59 W59 := opens_array Try.underlying59 (by kernel_rfl) (show OpensL Try.prog [24, 24] k59 W59 from (opens_iso (d := _) (fun x : S59 => (x.f0, x.f1)) (fun p => ⟨p.1, p.2⟩) (fun _ => rfl) (opensL_cons (opens_int Try.underlying24 (by kernel_rfl)) (opensL_one (opens_int Try.underlying24 (by kernel_rfl))))))
theorem opens_T83 : Opens Try.prog 83 k83 W83 := opens_struct Try.underlying83 (by kernel_rfl) (by kernel_rfl) [3, 72] rfl (show OpensL Try.prog [3, 72] k83 W83 from (opens_iso (d := _) (fun x : S83 => (x.f0, x.f1)) (fun p => ⟨p.1, p.2⟩) (fun _ => rfl) (opensL_cons (opens_int Try.underlying3 (by kernel_rfl)) (opensL_one (opens_int Try.underlying72 (by kernel_rfl))))))
set_option maxRecDepth 100000 in
theorem lifted (os : Os) (started : os.Started) (H : Type) (enc : TypeId × Value → H) :
    ReturnsInHanded {} Try.checked os 19 .any (Rows.sealBindsSpec.pre6 enc Try.prog Try.f19 Rows.sealBindsRow.domain false) (Rows.sealBindsSpec.post enc Try.prog Try.f19 false true false false) := by
  refine returnsInHanded_of_change_sized (C := Try.checked) own started (by kernel_rfl) Try.func19
    (ChangeSpec.witness6 (enc := enc) (C := Try.checked) false ⟨#[], #[(.slice none 0 0), (.agg #[(.int .u16 0), (.int .u16 0)]), (.agg #[(.int .i64 0), (.int .u64 0)])], []⟩ 8 (by kernel_rfl) (by kernel_rfl) (by kernel_rfl) (by kernel_rfl)) ?_
  intro W base args ds gs before hval0 hW hcnd hsz0 _
  have hsz : (DataW.weightsEach Try.prog (Try.f19.params.toList ++ Rows.sealBindsSpec.plain.varTypes Try.prog) (ds ++ gs)).all (· ≤ reachBytes) = true := hsz0
  have hval : ∀ (j : Nat) t v, Try.f19.params[j]? = some t → args[j]? = some v → Value.okWide Try.prog W .any base t v := hval0
  have hW' := hW
  obtain ⟨p, q, hA0, hV, rfl, hfz, hnd⟩ := hW
  have hA : DataW.TrodAll enc Try.prog W 0 (fun _ => true) true Try.f19.params.toList args.toList ds p := hA0
  rw [Try.params19] at hA hval hsz
  obtain ⟨v0, vs0, d0, ds0, p0, q0, hargs, rfl, rfl, h0, r0⟩ := trodAll_cons hA
  obtain ⟨v1, vs1, d1, ds1, p1, q1, rfl, rfl, rfl, h1, r1⟩ := trodAll_cons r0
  obtain ⟨v2, vs2, d2, ds2, p2, q2, rfl, rfl, rfl, h2, r2⟩ := trodAll_cons r1
  obtain ⟨rfl, rfl, rfl⟩ := trodAll_nil r2
  obtain rfl : args = #[v0, v1, v2] := by cases args; simp_all
  obtain ⟨rfl, rfl⟩ := trodVars_none hV
  have k0 := h0
  have lt0 : ∀ x ∈ p0, x.block < W.heap.size := by obtain ⟨m, hm⟩ := k0; exact DataW.trod_lt m _ _ _ hm
  obtain ⟨y0, hK0, w0⟩ := Opens.arg (j := 0) (t := 75) (opens_slice Try.underlying75 (by kernel_rfl) (B := 8) (by kernel_rfl) (opens_int Try.underlying72 (by kernel_rfl))) h0 hsz rfl rfl
  obtain ⟨a0, len0, cap0, rfl⟩ := okWide_slice Try.underlying75 (hval 0 75 v0 rfl rfl)
  obtain ⟨A0, c0, hcs0, hl0, hC0⟩ := hK0
  obtain ⟨rfl, rfl, rfl⟩ : a0 = A0 ∧ len0 = y0.length ∧ cap0 = c0 := by simpa [Value.cells] using hcs0
  have k1 := h1
  have lt1 : ∀ x ∈ p1, x.block < W.heap.size := by obtain ⟨m, hm⟩ := k1; exact DataW.trod_lt m _ _ _ hm
  obtain ⟨y1, hK1, w1⟩ := Opens.arg (j := 1) (t := 59) opens_T59 h1 hsz rfl rfl
  obtain ⟨cs1, rfl, hcs1⟩ := okWide_agg (.inr ⟨_, _, Try.underlying59⟩) (hval 1 59 v1 rfl rfl)
  rw [hcs1] at hK1
  have k2 := h2
  have lt2 : ∀ x ∈ p2, x.block < W.heap.size := by obtain ⟨m, hm⟩ := k2; exact DataW.trod_lt m _ _ _ hm
  obtain ⟨y2, hK2, w2⟩ := Opens.arg (j := 2) (t := 83) opens_T83 h2 hsz rfl rfl
  obtain ⟨cs2, rfl, hcs2⟩ := okWide_agg (.inl ⟨_, Try.underlying83⟩) (hval 2 83 v2 rfl rfl)
  rw [hcs2] at hK2
  clear hA0 hval0 hsz0 hsz
  refine (P03.plexuslaw03_SealBinds.walk Pure.SealBinds W _ _ y0 hC0 hl0 w0 y1 cs1 hK1 w1 y2 cs2 hK2 w2).mono fun e W' ⟨he, bel⟩ => ?_
  subst he
  exact ⟨_, rfl, _, _, _, [], _, [], hW', trodAll_mk1 (shut_bool Try.underlying4 _), (trodAll_cons_mk (Below.trod laidOut (by kernel_rfl) (of_decide_eq_true (by kernel_rfl)) k0 bel lt0) (trodAll_cons_mk (Below.trod laidOut (by kernel_rfl) (of_decide_eq_true (by kernel_rfl)) k1 bel lt1) (trodAll_cons_mk (Below.trod laidOut (by kernel_rfl) (of_decide_eq_true (by kernel_rfl)) k2 bel lt2) trodAll_mk0))), rfl, bel.frame _, fun h => by cases h⟩
theorem closed : joinedFacts Try.prog 19 Try.f19 Rows.sealBindsSpec Rows.sealBindsRow = true := by
  unfold joinedFacts
  rw [enters, lifts, makes]
  kernel_rfl
theorem over : Rows.sealBindsRow.holds Try.pinned (OpenSpec.ofChange Rows.sealBindsSpec) :=
  OpenClaim.holds_of_wide 19 Try.f19 rfl rfl rfl rfl rfl rfl rfl ⟨rfl, rfl, rfl, rfl, rfl⟩ rfl rfl rfl rfl rfl (by kernel_rfl) Try.func19 closed
    (of_decide_eq_true (by kernel_rfl)) (by unfold Func.isWrapper; first | (rw [if_pos (by decide +kernel)]; kernel_rfl) | (rw [if_neg (by decide +kernel)]; exact ⟨rfl, rfl⟩))
    (fun os started H enc _ => lifted os started H enc)
theorem proved : Rows.SealBindsSaid := over
#print axioms proved
end Go.Proofs.Ytcanekmlabehgaa.sealBinds
namespace Go.Proofs.Ytcanekmlabehgaa
/-- The row, under a short name, for the claim. -/
theorem sealBinds_holds : Rows.SealBindsSaid := sealBinds.proved
end Go.Proofs.Ytcanekmlabehgaa
