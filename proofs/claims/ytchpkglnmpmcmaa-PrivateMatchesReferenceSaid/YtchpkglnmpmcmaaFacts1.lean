/- A fact on the whole program that every row asks for. -/
import Derived.Test.YtchpkglnmpmcmaaRows
import Derived.KernelRfl
namespace Go.Proofs.Ytchpkglnmpmcmaa
theorem enters : Try.prog.mayEnter = true := by kernel_rfl
end Go.Proofs.Ytchpkglnmpmcmaa
