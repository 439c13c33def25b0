/- Private: small facts that the examples and the laws want. -/
import Derived.Test.YtchpkglnmpmcmaaQR
namespace Go.Proofs.YtchpkglnmpmcmaaQ
set_option linter.unusedVariables false
set_option linter.unusedSimpArgs false
open Go Go.RowKit Go.Proofs.Ytchpkglnmpmcmaa.V47 Go.Proofs.YtchpkglnmpmcmaaW.PrintWords Go.Proofs.YtchpkglnmpmcmaaW.PrintLast Go.Proofs.YtchpkglnmpmcmaaW.PrintMore
theorem half2 : halfN 2 = 1 := by unfold halfN; rfl
theorem cmt_1 (v x s : Int) : cmt v [x] s = jn (leaf (plc v [x] s 0)) (leaf (plc v [x] s 1)) := by
  unfold cmt
  have e : lvs v [x] s = [leaf (plc v [x] s 0), leaf (plc v [x] s 1)] := rfl
  rw [e, root_big (n := 2) rfl (by omega), half2]
  show jn (root 0 [leaf (plc v [x] s 0)]) (root 0 [leaf (plc v [x] s 1)]) = _
  rw [root_one, root_one]
theorem path_11 (v x s : Int) : path 0 (lvs v [x] s) 1 = [leaf (plc v [x] s 0)] := by
  have e : lvs v [x] s = [leaf (plc v [x] s 0), leaf (plc v [x] s 1)] := rfl
  rw [e, path_r (n := 2) rfl (by omega) (by rw [half2]; omega), half2]
  show path 0 [leaf (plc v [x] s 1)] 0 ++ [root 0 [leaf (plc v [x] s 0)]] = _
  rw [path_one (by simp), root_one]; rfl
/-- A place that is not there is not shown. -/
theorem shown_arg (x : Int × List Int) (s i : Int) (h : i < 0 ∨ (x.2.length : Int) < i) : Ev (fun k => plexuslaw47_shown.m k x s i) ((0, 0, 0, 0, []), 1) := by
  have hs : Ev (fun k => private_Show.m k x s i) ((0, 0, 0, 0, []), 1) := by
    refine evX (fun k => private_Show.m_eq k x s _) ?_
    by_cases h0 : i < 0
    · exact evT (dT h0) (Ev.now _)
    · exact evF (dF h0) (evT (dT (by omega)) (Ev.now _))
  refine evX (fun k => plexuslaw47_shown.m_eq k x s _) ?_
  refine Ev.bind hs ?_
  exact Ev.bind (a := ((0, 0, 0, 0, []) : OT)) ⟨0, fun k _ => plexuslaw47_of.m_eq k _⟩ (Ev.now _)
/-- A number with another one, not 0, upon it. -/
theorem xor_U {a b : Int} (ha : U a) (hb : U b) : ∃ n m : Nat, a = n ∧ b = m ∧ n < 2 ^ 64 ∧ m < 2 ^ 64 ∧ IntKind.wrap IntKind.u64 (↑(BitVec.toNat (BitVec.ofInt (IntKind.bits IntKind.u64) a ^^^ BitVec.ofInt (IntKind.bits IntKind.u64) b)) : Int) = ((n ^^^ m : Nat) : Int) := by
  obtain ⟨n, rfl, hn⟩ := ha.nat
  obtain ⟨m, rfl, hm⟩ := hb.nat
  refine ⟨n, m, rfl, rfl, hn, hm, ?_⟩
  have h := xor64 hn hm
  exact h
theorem xor_ne {a b : Int} (ha : U a) (hb : U b) (h0 : b ≠ 0) : IntKind.wrap IntKind.u64 (↑(BitVec.toNat (BitVec.ofInt (IntKind.bits IntKind.u64) a ^^^ BitVec.ofInt (IntKind.bits IntKind.u64) b)) : Int) ≠ a := by
  obtain ⟨n, m, rfl, rfl, hn, hm, e⟩ := xor_U ha hb
  rw [e]
  intro h
  have h2 : n ^^^ m = n := by exact_mod_cast h
  have h3 : m = 0 := by
    have := congrArg (n ^^^ ·) h2
    simpa [← Nat.xor_assoc] using this
  exact h0 (by rw [h3]; rfl)
theorem PB_U {v : Nat} (hv : v ≤ 60) {b : Int} (h : PB v b) : U b := by
  have h4 : ((2 ^ v : Nat) : Int) = 2 ^ v := by simp
  have h2 : 2 ^ v ≤ 2 ^ 60 := Nat.pow_le_pow_right (by decide) hv
  have h3 := h.2
  rw [← h4] at h3
  refine ⟨h.1, ?_⟩
  generalize 2 ^ v = z at h2 h3
  omega
end Go.Proofs.YtchpkglnmpmcmaaQ
