/- Functions as the abstract executor tells them: equations, and contracts; printed by a tool. -/
import Derived.Test.YtbkjdfemamehcaaX03
namespace Go.Proofs.Ytbkjdfemamehcaa.V03
open Go Go.Vx Go.Proofs
set_option linter.unusedVariables false
set_option maxRecDepth 100000
noncomputable def plexuslaw03_examples.s0 : Go.Vx.Spec := ⟨[], .unit, [.im (K.bool)], .one (none), false, fun _ => none⟩
noncomputable def plexuslaw03_examples.fns (k : Nat) : Go.Vx.Fns := [(14, plexuslaw03_opened.sp k), (25, seal_Join.sp k), (16, plexusref03_Same.sp k), (13, cRoot.sp k), (10, seal_Step.sp k), (11, seal_Back.sp k), (21, cWords.sp k), (15, plexuslaw03_check.sp k)]
theorem plexuslaw03_examples.fns_good (k : Nat) : (plexuslaw03_examples.fns k).good Try.prog := (Go.Vx.Fns.good_cons (plexuslaw03_opened.good k) (Go.Vx.Fns.good_cons (seal_Join.good k) (Go.Vx.Fns.good_cons (plexusref03_Same.good k) (Go.Vx.Fns.good_cons (cRoot.good k) (Go.Vx.Fns.good_cons (seal_Step.good k) (Go.Vx.Fns.good_cons (seal_Back.good k) (Go.Vx.Fns.good_cons (cWords.good k) (Go.Vx.Fns.good_cons (plexuslaw03_check.good k) Go.Vx.Fns.good_nil))))))))
def plexuslaw03_examples.ann : List (Nat × Ann) := []
noncomputable def plexuslaw03_examples.m0 (k : Nat) : Option (Bool) :=
  execF Try.prog (plexuslaw03_examples.fns k) plexuslaw03_examples.ann k (plexuslaw03_examples.s0) 98 Try.f9.results.toList (Go.Vx.bodyOf Try.f9) ()
noncomputable def plexuslaw03_examples.m : (Nat) → Option (Bool) := hide plexuslaw03_examples.m0
theorem plexuslaw03_examples.m_hid : plexuslaw03_examples.m = plexuslaw03_examples.m0 := hide_eq _
theorem plexuslaw03_examples.m_eq (k : Nat) : plexuslaw03_examples.m k = (Option.bind (plexuslaw03_opened.m k [5, 6, 7] 2) fun (r5 : List Int × Int) => (Option.bind (plexuslaw03_opened.m k [5, 6, 7] 0) fun (r8 : List Int × Int) => (Option.bind (plexuslaw03_opened.m k [5, 6, 7] 3) fun (r11 : List Int × Int) => (Option.bind (seal_Join.m k 5 6) fun (r19 : Int) => (if (r5.snd != 0) = true then some (false) else (if (r8.snd != 0) = true then some (false) else (if (r11.snd != 1) = true then some (false) else (Option.bind (plexusref03_Same.m k r5.fst [r19]) fun (r275 : Bool) => (if (!r275) = true then some (false) else (Option.bind (plexusref03_Same.m k r8.fst [6, 7]) fun (r339 : Bool) => (if (!r339) = true then some (false) else (Option.bind (P03.seal_Root.f k (List.take (Int.toNat 1) [5, 6, 7])) fun (r390 : Int) => (if (r390 != 5) = true then some (false) else (Option.bind (P03.seal_Root.f k (List.take (Int.toNat 2) [5, 6, 7])) fun (r430 : Int) => (if (r430 != r19) = true then some (false) else (Option.bind (P03.seal_Root.f k [5, 6, 7]) fun (r455 : Int) => (Option.bind (seal_Join.m k r19 7) fun (r460 : Int) => (if (r455 != r460) = true then some (false) else (Option.bind (seal_Step.m k 0 0) fun (r468 : Int) => (if (r468 == 0) = true then (Option.bind (seal_Step.m k 0 1) fun (r472 : Int) => (if (r472 != 0) = true then (Option.bind (seal_Step.m k 3 4) fun (r478 : Int) => (Option.bind (seal_Back.m k 3 r478) fun (r480 : Int) => (if (r480 == 4) = true then (Option.bind (P03.seal_Root.f k []) fun (r486 : Int) => (Option.bind (P03.seal_Words.f []) fun (r488 : Int) => (if (r486 == r488) = true then (Option.bind (P03.seal_Root.f k [5, 6, 7]) fun (r495 : Int) => (Option.bind (plexuslaw03_check.m k r495 (3, r5.fst) (2, 7)) fun (r501 : Int) => (if (r501 == 0) = true then (Option.bind (P03.seal_Root.f k [5, 6, 7]) fun (r508 : Int) => (Option.bind (plexuslaw03_check.m k r508 (3, r8.fst) (2, 7)) fun (r514 : Int) => some (r514 == 6))) else some (false)))) else some (false)))) else some (false)))) else some (false))) else some (false))))))))))))))))))))) := by
  rw [plexuslaw03_examples.m_hid]
  rw [cWords.hid, cRoot.hid]
  kernel_rfl
noncomputable def plexuslaw03_examples.sp (k : Nat) : Go.Vx.Spec := plexuslaw03_examples.s0.runs fun (x : plexuslaw03_examples.s0.argK.T) => plexuslaw03_examples.m k 
theorem plexuslaw03_examples.good (k : Nat) : Go.Vx.Good Try.prog 9 (plexuslaw03_examples.sp k) := Go.Vx.good_runs Try.func9 (show Try.f9.body = some (Go.Vx.bodyOf Try.f9) by kernel_rfl) (by kernel_rfl) (by kernel_rfl) (plexuslaw03_examples.fns_good k) (by
  intro x r h
  have h : plexuslaw03_examples.m k  = some r := h
  rw [plexuslaw03_examples.m_hid] at h
  exact h)
end Go.Proofs.Ytbkjdfemamehcaa.V03
