/- A fact on the whole program that every row asks for. -/
import Derived.Test.YtchpkglnmpmcmaaRows
import Derived.KernelRfl
namespace Go.Proofs.Ytchpkglnmpmcmaa
theorem makes : Try.prog.make = some Rows.privateDiffersRow.make := by kernel_rfl
end Go.Proofs.Ytchpkglnmpmcmaa
