/- A fact on the whole program that every row asks for. -/
import Derived.Test.YtbkjdfemamehcaaRows
import Derived.KernelRfl
namespace Go.Proofs.Ytbkjdfemamehcaa
theorem lifts : Try.prog.liftsFinal = Rows.sealMatchesReferenceRow.lifted := by kernel_rfl
end Go.Proofs.Ytbkjdfemamehcaa
