/- Out of the words that the kit prints for a seat: what this claim names. -/
import Derived.Test.YtjnpcpnjcieheaaGreatWFootNe
namespace Go.Proofs.YtjnpcpnjcieheaaGreatW.PrintWords
open Go.RowKit
section
variable {w w' u : World} {m B g : Nat} {o : Obj} {row : Option Nat} {S : Nat → Prop} {a : Addr} {v : Value}
theorem below_at (hq : w.drewN m = w') (h : Below B u w) : Below B u w' := by subst hq; exact pw_below_drewN h m
end
end Go.Proofs.YtjnpcpnjcieheaaGreatW.PrintWords
