/- A fact on the whole program that every row asks for. -/
import Derived.Test.YtakimeeakmlemaaRows
import Derived.KernelRfl
namespace Go.Proofs.Ytakimeeakmlemaa
theorem lifts : Try.prog.liftsFinal = Rows.localFactorsRow.lifted := by kernel_rfl
end Go.Proofs.Ytakimeeakmlemaa
