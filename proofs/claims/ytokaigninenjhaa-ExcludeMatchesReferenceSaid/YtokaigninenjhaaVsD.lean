/- The contract of plexusref24.divisor, which calls itself. -/
import Derived.Test.YtokaigninenjhaaVB
import Derived.Test.YtokaigninenjhaaProg
import Derived.KernelRfl
namespace Go.Proofs.Ytokaigninenjhaa.V22
open Go Go.Vx Go.RowKit
set_option linter.unusedVariables false
set_option allowUnsafeReducibility true
attribute [local irreducible] Go.Vx.loopK Go.Vx.obd Go.Vx.oif
noncomputable def cDiv.s0 : Go.Vx.Spec := ⟨[none, none], (.pair (K.int IntKind.i64) (K.int IntKind.i64)), [.im (K.int IntKind.i64)], .one (none), false, fun _ => none⟩
/-- With so many calls in one another. -/
noncomputable def cDiv.r : Nat → Int → Int → Option Int
  | 0, _, _ => none
  | d + 1, a0, a1 => execFI Try.prog [(32, cDiv.s0.runs fun (x : Int × Int) => cDiv.r d x.1 x.2)] .nil [] 0 cDiv.s0 13 Try.f32.results.toList (Go.Vx.bodyOf Try.f32) (a0, a1)
theorem cDiv.r_succ (d : Nat) (a0 a1 : Int) : cDiv.r (d + 1) a0 a1 = (if (a1 == 0) = true then some (a0) else (if a1 = 0 then none else (Option.bind (cDiv.r d a1 (divF BinOp.rem IntKind.i64 a0 a1)) fun (r13 : Int) => some (r13)))) := by kernel_rfl
theorem cDiv.r_good : ∀ d : Nat, Go.Vx.Good Try.prog 32 (cDiv.s0.runs fun (x : Int × Int) => cDiv.r d x.1 x.2)
  | 0 => Go.Vx.good_runsI (fns := []) (L := .nil) (ann := []) (fuel := 0) Try.func32 (show Try.f32.body = some (Go.Vx.bodyOf Try.f32) by kernel_rfl) (by kernel_rfl) (by kernel_rfl) Go.Vx.Fns.good_nil True.intro fun x r h => by
    have h : (none : Option Int) = some r := h
    cases h
  | d + 1 => Go.Vx.good_runsI Try.func32 (show Try.f32.body = some (Go.Vx.bodyOf Try.f32) by kernel_rfl) (by kernel_rfl) (by kernel_rfl) (Go.Vx.Fns.good_cons (cDiv.r_good d) Go.Vx.Fns.good_nil) (L := .nil) True.intro fun x r h => h
noncomputable def cDiv.m (k : Nat) (a0 a1 : Int) : Option Int := cDiv.r k a0 a1
noncomputable def cDiv.sp (k : Nat) : Go.Vx.Spec := cDiv.s0.runs fun (x : Int × Int) => cDiv.r k x.1 x.2
theorem cDiv.good (k : Nat) : Go.Vx.Good Try.prog 32 (cDiv.sp k) := cDiv.r_good k
end Go.Proofs.Ytokaigninenjhaa.V22
