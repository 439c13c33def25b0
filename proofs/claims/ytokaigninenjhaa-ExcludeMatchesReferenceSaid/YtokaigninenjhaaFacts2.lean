/- A fact on the whole program that every row asks for. -/
import Derived.Test.YtokaigninenjhaaRows
import Derived.KernelRfl
namespace Go.Proofs.Ytokaigninenjhaa
theorem lifts : Try.prog.liftsFinal = Rows.excludeMatchesReferenceRow.lifted := by kernel_rfl
end Go.Proofs.Ytokaigninenjhaa
