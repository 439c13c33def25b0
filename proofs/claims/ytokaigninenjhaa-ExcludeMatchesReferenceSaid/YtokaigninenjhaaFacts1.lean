/- A fact on the whole program that every row asks for. -/
import Derived.Test.YtokaigninenjhaaRows
import Derived.KernelRfl
namespace Go.Proofs.Ytokaigninenjhaa
theorem enters : Try.prog.mayEnter = true := by kernel_rfl
end Go.Proofs.Ytokaigninenjhaa
