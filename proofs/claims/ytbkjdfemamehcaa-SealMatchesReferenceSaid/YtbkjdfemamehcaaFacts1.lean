/- A fact on the whole program that every row asks for. -/
import Derived.Test.YtbkjdfemamehcaaRows
import Derived.KernelRfl
namespace Go.Proofs.Ytbkjdfemamehcaa
theorem enters : Try.prog.mayEnter = true := by kernel_rfl
end Go.Proofs.Ytbkjdfemamehcaa
