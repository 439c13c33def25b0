/- A fact on the whole program that every row asks for. -/
import Derived.Test.YtjnpcpnjcieheaaGreatRows
import Derived.KernelRfl
namespace Go.Proofs.YtjnpcpnjcieheaaGreat
theorem makes : Tryz.prog.make = some Rows.editionChangesRow.make := by kernel_rfl
end Go.Proofs.YtjnpcpnjcieheaaGreat
