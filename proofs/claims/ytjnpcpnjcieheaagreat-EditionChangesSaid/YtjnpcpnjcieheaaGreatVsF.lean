/- canon.Form, of which nothing is said here. -/
import Derived.Test.YtjnpcpnjcieheaaGreatVB
import Derived.Test.YtjnpcpnjcieheaaGreatProg
import Derived.KernelRfl
namespace Go.Proofs.YtjnpcpnjcieheaaGreat.V48
open Go Go.Vx Go.RowKit
set_option linter.unusedVariables false
noncomputable def cForm.m (k : Nat) (a0 : Int) (a1 : Int × List Int) : Option ((Int × List Int) × List Int × Int) := none
noncomputable def cForm.sp (k : Nat) : Vx.Spec := ⟨[none, some 2], .pair (.int .i64) (.pair (.int .i64) (.slice (.int .u64))), [.im (.pair (.int .i64) (.slice (.int .u64))), .im (.slice (.int .i64)), .im (.int .i64)], .tup [some 2, none, none], true, fun (x : Int × Int × List Int) => cForm.m k x.1 x.2⟩
theorem cForm.good (k : Nat) : Vx.Good Tryz.prog 86 (cForm.sp k) :=
  ⟨⟨_, Tryz.func86, by kernel_rfl, by kernel_rfl⟩, fun x r hx => absurd (show none = some r from hx) (by simp)⟩
end Go.Proofs.YtjnpcpnjcieheaaGreat.V48
