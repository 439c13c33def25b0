/- A fact on the whole program that every row asks for. -/
import Derived.Test.YtcanekmlabehgaaRows
import Derived.KernelRfl
namespace Go.Proofs.Ytcanekmlabehgaa
theorem makes : Try.prog.make = some Rows.sealBindsRow.make := by kernel_rfl
end Go.Proofs.Ytcanekmlabehgaa
