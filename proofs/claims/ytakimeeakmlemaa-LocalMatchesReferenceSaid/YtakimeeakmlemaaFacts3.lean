/- A fact on the whole program that every row asks for. -/
import Derived.Test.YtakimeeakmlemaaRows
import Derived.KernelRfl
namespace Go.Proofs.Ytakimeeakmlemaa
theorem makes : Try.prog.make = some Rows.localFactorsRow.make := by kernel_rfl
end Go.Proofs.Ytakimeeakmlemaa
