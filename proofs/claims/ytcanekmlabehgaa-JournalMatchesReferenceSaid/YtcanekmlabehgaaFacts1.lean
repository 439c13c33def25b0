/- A fact on the whole program that every row asks for. -/
import Derived.Test.YtcanekmlabehgaaRows
import Derived.KernelRfl
namespace Go.Proofs.Ytcanekmlabehgaa
theorem enters : Try.prog.mayEnter = true := by kernel_rfl
end Go.Proofs.Ytcanekmlabehgaa
