/- The contract of local.root, for the abstract executor. -/
import Derived.Test.YtokaigninenjhaaVB
import Derived.Test.YtokaigninenjhaaTRoot
namespace Go.Proofs.Ytokaigninenjhaa.V22
open Go Go.Vx Go.RowKit Go.Proofs.Ytokaigninenjhaa.P22
set_option linter.unusedVariables false
def rootC (x : Int) : Option (Int × Bool) := if -9223372036854775808 ≤ x ∧ x < 9223372036854775808 then local_root.f x else none
noncomputable def cRoot.h := hide rootC
theorem cRoot.hid : rootC = cRoot.h := (hide_eq _).symm
noncomputable def cRoot.sp (k : Nat) : Vx.Spec := ⟨[none], .int .i64, [.im (.int .i64), .im .bool], .tup [none, none], false, fun (x : Int) => cRoot.h x⟩
theorem cRoot.good (k : Nat) : Vx.Good Try.prog 48 (cRoot.sp k) := by
  refine ⟨⟨_, Try.func48, by kernel_rfl, by kernel_rfl⟩, fun x r hx w F cells hF hR => ?_⟩
  have hx : cRoot.h x = some r := hx
  rw [← cRoot.hid] at hx
  unfold rootC at hx
  split at hx
  · rename_i hr
    obtain rfl := hR
    refine (local_root.calls x r w hr.1 hr.2 hx).mono ?_
    rintro e w' ⟨rfl, rfl⟩
    exact ⟨[.int .i64 r.1, .bool r.2], fun _ => False, rfl, Below.refl _ _, fun _ q => q.elim, ⟨[.int .i64 r.1], [.bool r.2], rfl, rfl, rfl⟩, List.Pairwise.nil⟩
  · cases hx
end Go.Proofs.Ytokaigninenjhaa.V22
