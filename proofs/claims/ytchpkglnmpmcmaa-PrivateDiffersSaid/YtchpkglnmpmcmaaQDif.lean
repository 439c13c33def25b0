/- PrivateDiffers, but for the examples. -/
import Derived.Test.YtchpkglnmpmcmaaQE
import Derived.Test.YtchpkglnmpmcmaaX47D
namespace Go.Proofs.YtchpkglnmpmcmaaQ
set_option linter.unusedVariables false
set_option linter.unusedSimpArgs false
open Go Go.RowKit Go.Proofs.Ytchpkglnmpmcmaa.V47 Go.Proofs.YtchpkglnmpmcmaaW.PrintWords Go.Proofs.YtchpkglnmpmcmaaW.PrintLast Go.Proofs.YtchpkglnmpmcmaaW.PrintMore
theorem differs_of (hex : Ev (fun k => plexuslaw47_examples.m k) true) {a0 : List Int} (ha : ∀ x ∈ a0, BY x) {a1 a2 : Int × Int} (b0 : BY a1.1) (b1 : BY a1.2) (s0 : S a2.1) (s1 : S a2.2) : Ev (fun k => plexuslaw47_PrivateDiffers.m k a0 a1 a2) true := by
  obtain ⟨v, ⟨xv, l⟩, hv1, hv7, ok, hm⟩ := made_f ha
  obtain rfl : xv = (v : Int) := ok.pts
  have hlen : l.length ≤ 10 := ok.len
  have hlU : ∀ y ∈ l, U y := fun y hy => PB_U (by omega) (ok.pb y hy)
  obtain ⟨z0, hz0⟩ := Int.eq_ofNat_of_zero_le b0.1
  obtain ⟨z1, hz1⟩ := Int.eq_ofNat_of_zero_le b1.1
  have h00 := b0.2
  have h11 := b1.2
  refine evX (fun k => plexuslaw47_PrivateDiffers.m_eq k _ _ _) ?_
  refine Ev.bind hex (evF (by decide) (Ev.bind hm ?_))
  refine Ev.bind (commit_f ((v : Int), l) a2.1 (by show l.length ≤ _; omega)) ?_
  have hw : IntKind.wrap IntKind.i64 (IntKind.wrap IntKind.i64 ((v : Int) + 1) + Go.Vx.divF BinOp.rem IntKind.i64 (IntKind.wrap IntKind.i64 a1.1) 9) = ((v + 1 + z0 % 9 : Nat) : Int) := by
    rw [hz0] at h00 ⊢
    rw [wrap_i64', wrap_i64', wrap_i64', w64 (x := (z0 : Int)) (by omega) (by omega), show (9 : Int) = ((9 : Nat) : Int) from rfl, rem_range, w64 (x := (v : Int) + 1) (by omega) (by omega), w64 (by omega) (by omega)]
    omega
  show Ev (fun k => _) true
  simp only [hw]
  have hne : cmt ((v + 1 + z0 % 9 : Nat) : Int) l a2.1 ≠ cmt (v : Int) l a2.1 := fun e => by
    have := (cmt_v (v := (v : Int)) (w := ((v + 1 + z0 % 9 : Nat) : Int)) (by unfold S; omega) (by unfold S; omega) l a2.1).1 e
    omega
  refine Ev.bind (commit_f (((v + 1 + z0 % 9 : Nat) : Int), l) a2.1 (by show l.length ≤ _; omega)) (evF (bF hne) ?_)
  refine Ev.bind (agrees_f _ (((v + 1 + z0 % 9 : Nat) : Int), l) a2.1 (by show l.length ≤ _; omega)) (evF (bF hne) ?_)
  refine Ev.bind (commit_f ((v : Int), []) a2.1 (by simp)) (Ev.bind (commit_f ((v : Int), []) a2.2 (by simp)) (evF ?_ ?_))
  · have key : (cmt (v : Int) [] a2.1 == cmt (v : Int) [] a2.2) = (a2.1 == a2.2) := by
      rw [Bool.eq_iff_iff, beq_iff_eq, beq_iff_eq]
      exact cmt_s s0 s1
    simp [key]
  by_cases hl0 : l.length = 0
  · exact evT (bT (by show (l.length : Int) = 0; omega)) (Ev.now _)
  have hj : Go.Vx.divF BinOp.rem IntKind.i64 (IntKind.wrap IntKind.i64 a1.2) (l.length : Int) = ((z1 % l.length : Nat) : Int) := by
    rw [hz1] at h11 ⊢
    rw [wrap_i64', w64 (by omega) (by omega), rem_range]
  have hjl : z1 % l.length < l.length := Nat.mod_lt _ (by omega)
  generalize hjj : z1 % l.length = j at hj hjl
  refine evF (bF (by show (l.length : Int) ≠ 0; omega)) ?_
  simp only [hj]
  have hx := and_PB (v := v) (by omega) (IntKind.wrap IntKind.u64 a1.1)
  generalize IntKind.wrap IntKind.u64 (↑(BitVec.toNat (BitVec.ofInt (IntKind.bits IntKind.u64) (IntKind.wrap IntKind.u64 a1.1) &&& BitVec.ofInt (IntKind.bits IntKind.u64) (IntKind.wrap IntKind.u64 (Go.Vx.shF BinOp.shl IntKind.u64 1 (IntKind.wrap IntKind.u64 (v : Int)) - 1)))) : Int) = x at hx ⊢
  have hxU := PB_U (by omega) hx
  obtain ⟨b, hb⟩ := rvalid_f ((v : Int), l.set j x) (by simp; omega)
  refine evT (by omega) (evF (by omega) (evF (by rw [u64_wrap]; omega) (evT (by omega) (evT (by omega) (Ev.bind hb ?_)))))
  cases b with
  | false => exact evT rfl (Ev.now _)
  | true =>
    refine evF (by decide) (evT (by omega) (evT (by simp; omega) (evT (by omega) (evT (by omega) ?_))))
    have eg : List.getD (l.set j x) (Int.toNat (j : Int)) (Int.ofNat 0) = x := by rw [Int.toNat_natCast, List.getD_eq_getElem?_getD, List.getElem?_set_self hjl]; rfl
    rw [Int.toNat_natCast] at eg ⊢
    rw [eg]
    by_cases hs : x = List.getD l j (Int.ofNat 0)
    · exact evT (bT hs) (Ev.now _)
    · have hne2 : cmt (v : Int) (l.set j x) a2.1 ≠ cmt (v : Int) l a2.1 := fun e => hs ((cmt_b l a2.1 hjl hxU hlU).1 e)
      refine evF (bF hs) (evT (by first | rfl | trivial) (Ev.bind (commit_f ((v : Int), l.set j x) a2.1 (by simp; omega)) (evT (nT hne2) ?_)))
      refine Ev.bind (agrees_f _ ((v : Int), l.set j x) a2.1 (by simp; omega)) ?_
      rw [show (cmt (v : Int) (l.set j x) a2.1 == cmt (v : Int) l a2.1) = false from beq_eq_false_iff_ne.2 hne2]
      exact Ev.now _
end Go.Proofs.YtchpkglnmpmcmaaQ
