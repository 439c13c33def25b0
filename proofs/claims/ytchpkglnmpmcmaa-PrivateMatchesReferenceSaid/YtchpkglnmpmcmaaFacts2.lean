/- A fact on the whole program that every row asks for. -/
import Derived.Test.YtchpkglnmpmcmaaRows
import Derived.KernelRfl
namespace Go.Proofs.Ytchpkglnmpmcmaa
theorem lifts : Try.prog.liftsFinal = Rows.privateDiffersRow.lifted := by kernel_rfl
end Go.Proofs.Ytchpkglnmpmcmaa
