/- A fact on the whole program that every row asks for. -/
import Derived.Test.YtjnpcpnjcieheaaGreatRows
import Derived.KernelRfl
namespace Go.Proofs.YtjnpcpnjcieheaaGreat
theorem lifts : Tryz.prog.liftsFinal = Rows.editionChangesRow.lifted := by kernel_rfl
end Go.Proofs.YtjnpcpnjcieheaaGreat
