/- A fact on the whole program that every row asks for. -/
import Derived.Test.YtokaigninenjhaaRows
import Derived.KernelRfl
namespace Go.Proofs.Ytokaigninenjhaa
theorem makes : Try.prog.make = some Rows.excludeMatchesReferenceRow.make := by kernel_rfl
end Go.Proofs.Ytokaigninenjhaa
