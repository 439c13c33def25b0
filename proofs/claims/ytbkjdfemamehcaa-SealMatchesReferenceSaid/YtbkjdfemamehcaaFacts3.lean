/- A fact on the whole program that every row asks for. -/
import Derived.Test.YtbkjdfemamehcaaRows
import Derived.KernelRfl
namespace Go.Proofs.Ytbkjdfemamehcaa
theorem makes : Try.prog.make = some Rows.sealMatchesReferenceRow.make := by kernel_rfl
end Go.Proofs.Ytbkjdfemamehcaa
