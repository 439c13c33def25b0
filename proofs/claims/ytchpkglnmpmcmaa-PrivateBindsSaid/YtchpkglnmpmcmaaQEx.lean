/- Private: the examples come out true. -/
import Derived.Test.YtchpkglnmpmcmaaQE
namespace Go.Proofs.YtchpkglnmpmcmaaQ
set_option linter.unusedVariables false
set_option linter.unusedSimpArgs false
open Go Go.RowKit Go.Proofs.Ytchpkglnmpmcmaa.V47 Go.Proofs.YtchpkglnmpmcmaaW.PrintWords Go.Proofs.YtchpkglnmpmcmaaW.PrintLast Go.Proofs.YtchpkglnmpmcmaaW.PrintMore
open Go.Vx (mget mset)
/-- The opening of the one block of the second example. -/
def oP : OT := (1, 3, 0, key 5 1, [leaf (plc 3 [3] 5 0)])
def oQ : OT := (0, 3, 1, key 5 0, [leaf (plc 3 [3] 5 1)])
def oX : OT := (0, 2, 0, key 5 0, [])
theorem path_10 (v x s : Int) : path 0 (lvs v [x] s) 0 = [leaf (plc v [x] s 1)] := by
  have e : lvs v [x] s = [leaf (plc v [x] s 0), leaf (plc v [x] s 1)] := rfl
  rw [e, path_l (n := 2) rfl (by omega) (by rw [half2]; omega), half2]
  show path 0 [leaf (plc v [x] s 0)] 0 ++ [root 0 [leaf (plc v [x] s 1)]] = _
  rw [path_one (by simp), root_one]; rfl
theorem path_00 (v s : Int) : path 0 (lvs v [] s) 0 = [] := path_one (by rw [lvs_len]; simp)
theorem opn_P : opn 3 [3] 5 1 = oP := by
  have e : plc 3 [3] 5 1 = (1, 3, 0, key 5 1, []) := by
    unfold plc
    rw [if_neg (by omega)]
    have h : wrap64 (([3] : List Int).getD (1 - 1) 0) = 3 := w64 (x := 3) (by decide) (by decide)
    rw [h]; rfl
  unfold opn oP
  rw [path_11, e]
theorem opn_Q : opn 3 [3] 5 0 = oQ := by
  unfold opn oQ
  rw [path_10]; rfl
theorem opn_X : opn 2 [] 5 0 = oX := by
  unfold opn oX
  rw [path_00]; rfl
/-- With another leaf an accepted opening is refused. -/
theorem chk_leaf {r : Int} {n i : Nat} {o o' : OT} (hp : o'.2.2.2.2 = o.2.2.2.2) (hU : ∀ x ∈ o.2.2.2.2, U x) (h : chk r n i o = 0) (hl : leaf o' ≠ leaf o) : chk r n i o' = 470 := by
  have hf : fold (leaf o) o.2.2.2.2 (sides (n + 1) i) = r := by
    unfold chk at h
    by_cases c1 : o.2.2.1 = (if i = 0 then (n : Int) else 0)
    · rw [if_pos c1] at h
      by_cases c2 : (sides (n + 1) i).length = o.2.2.2.2.length
      · rw [if_pos c2] at h
        by_cases c3 : fold (leaf o) o.2.2.2.2 (sides (n + 1) i) = r
        · exact c3
        · rw [if_neg c3] at h; cases h
      · rw [if_neg c2] at h; cases h
    · rw [if_neg c1] at h; cases h
  unfold chk
  rw [hp]
  by_cases c1 : o'.2.2.1 = (if i = 0 then (n : Int) else 0)
  · rw [if_pos c1]
    by_cases c2 : (sides (n + 1) i).length = o.2.2.2.2.length
    · rw [if_pos c2]
      exact if_neg fun q => hl ((fold_h _ _ _ _ (leaf_U _) (leaf_U _) hU).1 (q.trans hf.symm))
    · rw [if_neg c2]
  · rw [if_neg c1]
/-- Another number at the place is refused. -/
theorem ex_bent : chk (cmt 3 [3] 5) 1 1 (1, 1, 0, key 5 1, [leaf (plc 3 [3] 5 0)]) = 470 := by
  have h0 := chk_opn 3 [3] 5 (i := 1) (by simp)
  rw [opn_P] at h0
  refine chk_leaf (o := oP) rfl (fun x hx => ?_) h0 fun e => ?_
  · rw [List.mem_singleton.1 hx]; exact leaf_U _
  · have h3 : wd [key 5 1, 1] = wd [key 5 1, 3] := e
    have := ((wd_2 (.inl rfl)).1 h3).2
    revert this
    decide
end Go.Proofs.YtchpkglnmpmcmaaQ
