/- Private: openings with one changed number are refused. -/
import Derived.Test.YtchpkglnmpmcmaaQEx
namespace Go.Proofs.YtchpkglnmpmcmaaQ
set_option linter.unusedVariables false
set_option linter.unusedSimpArgs false
open Go Go.RowKit Go.Proofs.Ytchpkglnmpmcmaa.V47 Go.Proofs.YtchpkglnmpmcmaaW.PrintWords Go.Proofs.YtchpkglnmpmcmaaW.PrintLast Go.Proofs.YtchpkglnmpmcmaaW.PrintMore
/-- A number of 64 bits with a sign, and another one, not 0, upon it. -/
theorem ixor_S (a b : Int) : S (IntKind.wrap IntKind.i64 (↑(BitVec.toNat (BitVec.ofInt (IntKind.bits IntKind.i64) a ^^^ BitVec.ofInt (IntKind.bits IntKind.i64) b)) : Int)) := by
  rw [wrap_i64']; exact S_wrap _
theorem ofInt_wrap64 (z : BitVec 64) : BitVec.ofInt 64 (wrap64 (z.toNat : Int)) = z := by
  apply BitVec.eq_of_toNat_eq
  rw [BitVec.toNat_ofInt]
  have h := z.isLt
  unfold wrap64
  omega
theorem ixor_ne {a b : Int} (hb : U b) (h0 : b ≠ 0) : IntKind.wrap IntKind.i64 (↑(BitVec.toNat (BitVec.ofInt (IntKind.bits IntKind.i64) a ^^^ BitVec.ofInt (IntKind.bits IntKind.i64) (IntKind.wrap IntKind.i64 b))) : Int) ≠ a := by
  intro h
  rw [wrap_i64', wrap_i64'] at h
  have h1 := congrArg (BitVec.ofInt 64) h
  rw [show IntKind.bits IntKind.i64 = 64 from rfl, ofInt_wrap64] at h1
  have h2 : BitVec.ofInt 64 (wrap64 b) = 0#64 := by
    have := congrArg (fun q => BitVec.ofInt 64 a ^^^ q) h1
    simpa [← BitVec.xor_assoc] using this
  have h3 := congrArg BitVec.toNat h2
  rw [BitVec.toNat_ofInt] at h3
  unfold wrap64 at h3
  unfold U at hb
  simp at h3
  omega
/-- With another number of blocks it is refused. -/
theorem chk_b {r : Int} {n i : Nat} {o : OT} (h : o.2.2.1 ≠ (if i = 0 then (n : Int) else 0)) : chk r n i o = 470 := by
  unfold chk; exact if_neg h
theorem chk_ok {r : Int} {n i : Nat} {o : OT} (h : chk r n i o = 0) : o.2.2.1 = (if i = 0 then (n : Int) else 0) ∧ (sides (n + 1) i).length = o.2.2.2.2.length ∧ fold (leaf o) o.2.2.2.2 (sides (n + 1) i) = r := by
  unfold chk at h
  by_cases c1 : o.2.2.1 = (if i = 0 then (n : Int) else 0)
  · rw [if_pos c1] at h
    by_cases c2 : (sides (n + 1) i).length = o.2.2.2.2.length
    · rw [if_pos c2] at h
      by_cases c3 : fold (leaf o) o.2.2.2.2 (sides (n + 1) i) = r
      · exact ⟨c1, c2, c3⟩
      · rw [if_neg c3] at h; cases h
    · rw [if_neg c2] at h; cases h
  · rw [if_neg c1] at h; cases h
theorem chk_root {r s : Int} {n i : Nat} {o : OT} (h : chk r n i o = 0) (hs : s ≠ r) : chk s n i o = 470 := by
  obtain ⟨c1, c2, c3⟩ := chk_ok h
  unfold chk
  rw [if_pos c1, if_pos c2, if_neg (fun q => hs (q.symm.trans c3))]
theorem chk_path {r : Int} {n i j : Nat} {o : OT} (h : chk r n i o = 0) (hU : ∀ x ∈ o.2.2.2.2, U x) (hj : j < o.2.2.2.2.length) {v : Int} (hv : U v) (hne : v ≠ o.2.2.2.2.getD j 0) : chk r n i (o.1, o.2.1, o.2.2.1, o.2.2.2.1, o.2.2.2.2.set j v) = 470 := by
  obtain ⟨c1, c2, c3⟩ := chk_ok h
  unfold chk
  rw [if_pos (by exact c1), if_pos (by show _ = (o.2.2.2.2.set j v).length; rw [List.length_set]; exact c2), if_neg]
  intro q
  have hl : leaf (o.1, o.2.1, o.2.2.1, o.2.2.2.1, o.2.2.2.2.set j v) = leaf o := rfl
  rw [hl] at q
  exact hne ((fold_set o.2.2.2.2 (sides (n + 1) i) (leaf o) v j hj c2.symm (leaf_U o) hv hU).1 (q.trans c3.symm))
/-- Numbers that fit into 64 bits with a sign. -/
def Fits (o : OT) : Prop := S o.2.1 ∧ S o.2.2.1 ∧ S o.2.2.2.1
theorem chk_A {r : Int} {n i : Nat} {o : OT} (h : chk r n i o = 0) (hU : ∀ x ∈ o.2.2.2.2, U x) (hf : Fits o) {a : Int} (ha : S a) (hne : a ≠ o.2.1) : chk r n i (o.1, a, o.2.2.1, o.2.2.2.1, o.2.2.2.2) = 470 := by
  refine chk_leaf (o := o) rfl hU h fun e => ?_
  unfold leaf at e
  by_cases h0 : o.1 = 0
  · rw [if_pos (show (o.1, a, o.2.2.1, o.2.2.2.1, o.2.2.2.2).1 = 0 from h0), if_pos h0] at e
    have := ((wd_3 (.inr (.inl ⟨rfl, rfl⟩))).1 e).2.1
    exact hne ((S_inj ha hf.1).1 this)
  · rw [if_neg (show ¬ (o.1, a, o.2.2.1, o.2.2.2.1, o.2.2.2.2).1 = 0 from h0), if_neg h0] at e
    have := ((wd_2 (.inl rfl)).1 e).2
    exact hne ((S_inj ha hf.1).1 this)
theorem chk_K {r : Int} {n i : Nat} {o : OT} (h : chk r n i o = 0) (hU : ∀ x ∈ o.2.2.2.2, U x) (hf : Fits o) {a : Int} (ha : S a) (hne : a ≠ o.2.2.2.1) : chk r n i (o.1, o.2.1, o.2.2.1, a, o.2.2.2.2) = 470 := by
  refine chk_leaf (o := o) rfl hU h fun e => ?_
  unfold leaf at e
  by_cases h0 : o.1 = 0
  · rw [if_pos (show (o.1, o.2.1, o.2.2.1, a, o.2.2.2.2).1 = 0 from h0), if_pos h0] at e
    have := ((wd_3 (.inl ⟨rfl, rfl⟩)).1 e).1
    exact hne ((S_inj ha hf.2.2).1 this)
  · rw [if_neg (show ¬ (o.1, o.2.1, o.2.2.1, a, o.2.2.2.2).1 = 0 from h0), if_neg h0] at e
    have := ((wd_2 (.inr rfl)).1 e).1
    exact hne ((S_inj ha hf.2.2).1 this)
theorem u8_rem4 (z : Nat) : Go.Vx.divF BinOp.rem IntKind.u8 (z : Int) 4 = ((z % 4 : Nat) : Int) := by
  show Int.tmod (z : Int) 4 = _
  rw [Int.tmod_eq_emod_of_nonneg (by omega)]; omega
/-- A bent opening: what it is, and that it is refused where the other one is accepted. -/
def BentOf (o b : OT) : Prop := b.1 = o.1 ∧ (∀ x ∈ b.2.2.2.2, U x) ∧ ∀ (r : Int) (n i : Nat), o.1 = i → chk r n i o = 0 → chk r n i b = 470
theorem bent_j2 {o : OT} (hU : ∀ x ∈ o.2.2.2.2, U x) (hp : o.2.2.2.2.length ≤ 100000) (hf : Fits o) {z1 : Nat} (hz : z1 < 256) (z0 : Int) {y : Int} (hy : U y) (h0 : y ≠ 0) {v : Nat} (hv : v < 4) (h3 : v = 3 → o.2.2.2.2.length ≠ 0) :
    ∃ b, BentOf o b ∧ Ev (fun k => plexusref47_Bent.j2 k o (z0, (z1 : Int)) y (v : Int)) b := by
  have step := fun k => plexusref47_Bent.j2_eq k o (z0, (z1 : Int)) y (v : Int)
  by_cases v0 : v = 0
  · subst v0
    refine ⟨_, ?_, evX step (evT (bT rfl) (Ev.now _))⟩
    exact ⟨rfl, hU, fun r n i _ h => chk_A h hU hf (ixor_S _ _) (ixor_ne hy h0)⟩
  by_cases v1 : v = 1
  · subst v1
    refine ⟨_, ?_, evX step (evF (bF (by decide)) (evT (bT rfl) (Ev.now _)))⟩
    exact ⟨rfl, hU, fun r n i _ h => chk_K h hU hf (ixor_S _ _) (ixor_ne hy h0)⟩
  by_cases v2 : v = 2
  · subst v2
    refine ⟨_, ?_, evX step (evF (bF (by decide)) (evF (bF (by decide)) (evT (bT rfl) (Ev.now _))))⟩
    exact ⟨rfl, hU, fun r n i _ h => chk_b (fun q => ixor_ne hy h0 (q.trans (chk_ok h).1.symm))⟩
  have hl := h3 (by omega)
  have e : Go.Vx.divF BinOp.rem IntKind.i64 (IntKind.wrap IntKind.i64 (z1 : Int)) (o.2.2.2.2.length : Int) = ((z1 % o.2.2.2.2.length : Nat) : Int) := by
    rw [wrap_i64', w64 (by omega) (by omega), rem_range]
  have hlt : z1 % o.2.2.2.2.length < o.2.2.2.2.length := Nat.mod_lt _ (by omega)
  refine ⟨_, ?_, evX step (evF (bF (by omega)) (evF (bF (by omega)) (evF (bF (by omega)) (evF (by omega) (evT (by rw [e]; omega) (evT (by rw [e]; omega) (evT (by rw [e]; omega) (evT (by rw [e]; omega) (Ev.now _)))))))))⟩
  rw [e, Int.toNat_natCast]
  have hg : U (List.getD o.2.2.2.2 (z1 % o.2.2.2.2.length) (Int.ofNat 0)) := by
    rw [List.getD_eq_getElem?_getD, List.getElem?_eq_getElem hlt]
    exact hU _ (List.getElem_mem hlt)
  have hx := xor_ne hg hy h0
  refine ⟨rfl, set_U hU (wrap_U _) _, fun r n i _ h => chk_path h hU hlt (wrap_U _) hx⟩
theorem bent_f {o : OT} (hU : ∀ x ∈ o.2.2.2.2, U x) (hp : o.2.2.2.2.length ≤ 100000) (hf : Fits o) {z0 z1 : Nat} (hz : z1 < 256) (hz0 : z0 < 256) {y : Int} (hy : U y) :
    ∃ b, BentOf o b ∧ Ev (fun k => plexusref47_Bent.m k o ((z0 : Int), (z1 : Int)) y) b := by
  have j1 : ∀ {y : Int}, U y → y ≠ 0 → ∀ {v : Nat}, v < 4 → (v = 3 → o.2.2.2.2.length ≠ 0) → ∃ b, BentOf o b ∧ Ev (fun k => plexusref47_Bent.j1 k o ((z0 : Int), (z1 : Int)) y (v : Int)) b := by
    intro y hy h0 v hv h3
    have step := fun k => plexusref47_Bent.j1_eq k o ((z0 : Int), (z1 : Int)) y (v : Int)
    by_cases v2 : v = 2
    · by_cases ha : o.1 > 0
      · obtain ⟨b, hb, he⟩ := bent_j2 hU hp hf hz (z0 : Int) hy h0 (v := 1) (by omega) (by omega)
        exact ⟨b, hb, evX step (evT (bT (by omega)) (evT (dT ha) he))⟩
      · obtain ⟨b, hb, he⟩ := bent_j2 hU hp hf hz (z0 : Int) hy h0 hv h3
        exact ⟨b, hb, evX step (evT (bT (by omega)) (evF (dF ha) he))⟩
    · obtain ⟨b, hb, he⟩ := bent_j2 hU hp hf hz (z0 : Int) hy h0 hv h3
      exact ⟨b, hb, evX step (evF (bF (by omega)) he)⟩
  have j0 : ∀ {y : Int}, U y → y ≠ 0 → ∃ b, BentOf o b ∧ Ev (fun k => plexusref47_Bent.j0 k o ((z0 : Int), (z1 : Int)) y) b := by
    intro y hy h0
    have step := fun k => plexusref47_Bent.j0_eq k o ((z0 : Int), (z1 : Int)) y
    simp only [u8_rem4] at step
    by_cases v3 : z0 % 4 = 3
    · by_cases hl : o.2.2.2.2.length = 0
      · obtain ⟨b, hb, he⟩ := j1 hy h0 (v := 0) (by omega) (by omega)
        exact ⟨b, hb, evX step (evT (bT (by omega)) (evT (bT (by omega)) he))⟩
      · obtain ⟨b, hb, he⟩ := j1 hy h0 (v := z0 % 4) (by omega) (fun _ => hl)
        exact ⟨b, hb, evX step (evT (bT (by omega)) (evF (bF (by omega)) he))⟩
    · obtain ⟨b, hb, he⟩ := j1 hy h0 (v := z0 % 4) (by omega) (fun q => absurd q v3)
      exact ⟨b, hb, evX step (evF (bF (by omega)) he)⟩
  have step := fun k => plexusref47_Bent.m_eq k o ((z0 : Int), (z1 : Int)) y
  by_cases h0 : y = 0
  · obtain ⟨b, hb, he⟩ := j0 (y := 1) ⟨by decide, by decide⟩ (by decide)
    exact ⟨b, hb, evX step (evT (by omega) (evT (bT h0) he))⟩
  · obtain ⟨b, hb, he⟩ := j0 hy h0
    exact ⟨b, hb, evX step (evT (by omega) (evF (bF h0) he))⟩
theorem plc_S {v : Int} (hv : S v) (l : List Int) (hl : l.length ≤ 10000) (s : Int) (i : Nat) : S (plc v l s i).2.1 ∧ S (plc v l s i).2.2.1 ∧ S (plc v l s i).2.2.2.1 := by
  unfold plc
  by_cases h : i = 0
  · rw [if_pos h]; exact ⟨hv, by show S (l.length : Int); unfold S; omega, key_S _ _⟩
  · rw [if_neg h]; exact ⟨S_wrap _, by show S 0; unfold S; omega, key_S _ _⟩
theorem opn_fits {v : Int} (hv : S v) (l : List Int) (hl : l.length ≤ 10000) (s : Int) (i : Nat) : Fits (opn v l s i) := plc_S hv l hl s i
end Go.Proofs.YtchpkglnmpmcmaaQ
