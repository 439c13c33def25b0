/- The law that the row states of plexus/plexuslaw48.EditionChanges: for every input the answer is true. Under no condition. -/
import Derived.Test.YtjnpcpnjcieheaaGreatQJ
import Derived.Test.YtjnpcpnjcieheaaGreatVC
namespace Go.Proofs.YtjnpcpnjcieheaaGreat.Pure
set_option linter.unusedVariables false
set_option linter.unusedSimpArgs false
open Go Go.RowKit Go.Proofs.YtjnpcpnjcieheaaGreatQ
open Go.Vx (K)
theorem u8_wf {a : Int} (h : (Lit.int .u8 a).wf = true) : BY a := by
  simp [Lit.wf, IntKind.min, IntKind.max, IntKind.signed, IntKind.bits] at h
  exact ⟨by omega, by omega⟩
theorem u64_wf {a : Int} (h : (Lit.int .u64 a).wf = true) : U a := by
  simp [Lit.wf, IntKind.min, IntKind.max, IntKind.signed, IntKind.bits] at h
  exact ⟨by omega, by omega⟩
theorem r21_wf {a : Int × Int × List (List Int)} (h : Vx.WF (K.pair (K.int IntKind.u8) (K.pair (K.int IntKind.u8) (K.slice (K.slice (K.int IntKind.u8))))) a) : ∀ l ∈ a.2.2, ∀ b ∈ l, BY b := fun l hl b hb => u8_wf (((h.2.2).2 l hl).2 b hb)
abbrev kArg : K := .pair (K.pair (K.int IntKind.u64) (K.slice (K.pair (K.int IntKind.u8) (K.pair (K.int IntKind.u8) (K.slice (K.slice (K.int IntKind.u8))))))) (.pair (K.pair (K.int IntKind.u8) (K.pair (K.int IntKind.u8) (K.int IntKind.u8))) (K.int IntKind.u64))
theorem EditionChanges (x : kArg.T) (hx : Vx.WF kArg x) : ∃ k, V48.plexuslaw48_EditionChanges.m k x.1 x.2.1 x.2.2 = some true := by
  exact (changes_of (u64_wf hx.1.1) (fun y hy => r21_wf (hx.1.2.2 y hy)) (u8_wf hx.2.1.1) (u8_wf hx.2.1.2.1) (u8_wf hx.2.1.2.2) (u64_wf hx.2.2)).rounds
end Go.Proofs.YtjnpcpnjcieheaaGreat.Pure
