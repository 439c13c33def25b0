/- Steps of digests, as seal computes them. -/
import Derived.Test.YtjnpcpnjcieheaaGreatS47A
import Derived.Test.YtjnpcpnjcieheaaGreatQStepN
namespace Go.Proofs.YtjnpcpnjcieheaaGreatQ
set_option linter.unusedVariables false
set_option linter.unusedSimpArgs false
open Go.RowKit Go.Proofs.YtjnpcpnjcieheaaGreat.P47 Go.Proofs.YtjnpcpnjcieheaaGreatW.PrintWords Go.Proofs.YtjnpcpnjcieheaaGreatW.PrintLast Go.Proofs.YtjnpcpnjcieheaaGreatW.PrintMore
theorem dstep_f {h w : Nat} (hh : h < 2 ^ 64) (hw : w < 2 ^ 64) : seal_digest_step.f (h : Int) (w : Int) = some ((stepN h w : Nat) : Int) := by
  unfold seal_digest_step.f
  have ht : (h ^^^ w) * 11400714819323198485 % 2 ^ 64 < 2 ^ 64 := Nat.mod_lt _ (by decide)
  rw [xor64 hh hw, show ((11400714819323198485 : Int)) = ((11400714819323198485 : Nat) : Int) from rfl, mul64, div29, xor64 ht (sr_lt ht 29), show ((13787848793156543929 : Int)) = ((13787848793156543929 : Nat) : Int) from rfl, mul64]
  rfl
end Go.Proofs.YtjnpcpnjcieheaaGreatQ
