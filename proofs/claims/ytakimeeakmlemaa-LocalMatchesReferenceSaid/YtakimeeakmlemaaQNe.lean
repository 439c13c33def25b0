/- Local: what Near answers. -/
import Derived.Test.YtakimeeakmlemaaQH
import Derived.Test.YtakimeeakmlemaaX22R
namespace Go.Proofs.YtakimeeakmlemaaQ
set_option linter.unusedVariables false
set_option linter.unusedSimpArgs false
open Go Go.RowKit Go.Proofs.Ytakimeeakmlemaa.P22 Go.Proofs.Ytakimeeakmlemaa.V22 Go.Proofs.YtakimeeakmlemaaW.PrintWords Go.Proofs.YtakimeeakmlemaaW.PrintLast Go.Proofs.YtakimeeakmlemaaW.PrintMore
theorem near_e {x : Int} (h1 : -200 ≤ x) (h2 : x ≤ 200) : Ev (fun k => plexusref22_Near.m k x) (if x = 0 then 1 else x) := by
  refine evX (fun k => plexusref22_Near.m_eq k _) ?_
  by_cases h : x = 0
  · rw [if_pos h]; exact evT (bT h) (Ev.now _)
  · rw [if_neg h]
    refine evF (bF h) ?_
    rw [wrap_i64', w64 (by omega) (by omega)]
    exact Ev.now _
theorem near_bd {x : Int} {m : Int} (h1 : -m ≤ x) (h2 : x ≤ m) (hm : 1 ≤ m) : (if x = 0 then 1 else x) ≠ 0 ∧ -m ≤ (if x = 0 then 1 else x) ∧ (if x = 0 then 1 else x) ≤ m := by split <;> omega
end Go.Proofs.YtakimeeakmlemaaQ
