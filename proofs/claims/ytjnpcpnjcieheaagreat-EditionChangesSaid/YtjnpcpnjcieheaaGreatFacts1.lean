/- A fact on the whole program that every row asks for. -/
import Derived.Test.YtjnpcpnjcieheaaGreatRows
import Derived.KernelRfl
namespace Go.Proofs.YtjnpcpnjcieheaaGreat
theorem enters : Tryz.prog.mayEnter = true := by kernel_rfl
end Go.Proofs.YtjnpcpnjcieheaaGreat
