/- PrivateMatchesReference, but for the examples. -/
import Derived.Test.YtchpkglnmpmcmaaQRr
import Derived.Test.YtchpkglnmpmcmaaX47M
namespace Go.Proofs.YtchpkglnmpmcmaaQ
set_option linter.unusedVariables false
set_option linter.unusedSimpArgs false
open Go Go.RowKit Go.Proofs.Ytchpkglnmpmcmaa.P47 Go.Proofs.Ytchpkglnmpmcmaa.V47 Go.Proofs.YtchpkglnmpmcmaaW.PrintWords Go.Proofs.YtchpkglnmpmcmaaW.PrintLast Go.Proofs.YtchpkglnmpmcmaaW.PrintMore
theorem xnF' {p q : Bool} (h : p = q) : ¬ ((!(p == q)) = true) := by subst h; cases p <;> decide
theorem same3_l0 (l : List Int) (hl : l.length ≤ 100000) : ∀ (m i : Nat), l.length - i = m → i ≤ l.length → Ev2 (fun n k => plexusref03_Same.l0 n k l l (i : Int)) true
  | 0, i, hm, hi => by
    refine Ev2.step (fun n k => plexusref03_Same.l0_succ n k _ _ _) ?_
    exact ev2F (dF (by omega)) (Ev2.now _)
  | m + 1, i, hm, hi => by
    refine Ev2.step (fun n k => plexusref03_Same.l0_succ n k _ _ _) ?_
    rw [inc64 (by omega)]
    exact ev2T (dT (by omega)) (ev2T (by omega) (ev2T (by omega) (ev2T (by omega) (ev2T (by omega) (ev2F (nF rfl) (same3_l0 l hl m (i + 1) (by omega) (by omega)))))))
theorem same3_f (l : List Int) (hl : l.length ≤ 100000) : Ev (fun k => plexusref03_Same.m k l l) true := by
  refine evX (fun k => plexusref03_Same.m_eq k _ _) (evF (nF rfl) ?_)
  exact (same3_l0 l hl _ 0 rfl (by omega)).diag
theorem same47_f (o : OT) (hl : o.2.2.2.2.length ≤ 100000) : Ev (fun k => plexusref47_Same.m k o o) true := by
  refine evX (fun k => plexusref47_Same.m_eq k _ _) (evT (bT rfl) (evT (bT rfl) (evT (bT rfl) (evT (bT rfl) (Ev.bind (same3_f _ hl) (Ev.now _))))))
theorem same6l_l0 (l : List Int) (hl : l.length ≤ 10000) : ∀ (m i : Nat), l.length - i = m → i ≤ l.length → Ev2 (fun n k => plexusref06_SameBlocks.l0 n k l l (i : Int)) true
  | 0, i, hm, hi => by
    refine Ev2.step (fun n k => plexusref06_SameBlocks.l0_succ n k _ _ _) ?_
    exact ev2F (dF (by omega)) (Ev2.now _)
  | m + 1, i, hm, hi => by
    refine Ev2.step (fun n k => plexusref06_SameBlocks.l0_succ n k _ _ _) ?_
    rw [inc64 (by omega)]
    exact ev2T (dT (by omega)) (ev2T (by omega) (ev2T (by omega) (ev2T (by omega) (ev2T (by omega) (ev2F (nF rfl) (same6l_l0 l hl m (i + 1) (by omega) (by omega)))))))
theorem same6x_f (x : Int × List Int) (hl : x.2.length ≤ 10000) : Ev (fun k => plexusref06_Same.m k x x) true := by
  refine evX (fun k => plexusref06_Same.m_eq k _ _) (evT (bT rfl) (Ev.bind (a := true) ?_ (Ev.now _)))
  refine evX (fun k => plexusref06_SameBlocks.m_eq k _ _) (evF (nF rfl) ?_)
  exact (same6l_l0 x.2 hl _ 0 rfl (by omega)).diag
/-! ### openings of any numbers -/
def GF (o : OT) : Prop := Good o ∧ Fits o
theorem path_good {lv : List Int} (h : ∀ x ∈ lv, U x) (h1 : 1 ≤ lv.length) (hm : lv.length ≤ 1000) (i : Nat) : (∀ x ∈ path 0 lv i, U x) ∧ (path 0 lv i).length ≤ 100000 := by
  refine ⟨path_U 0 U0 _ _ rfl h i, ?_⟩
  have := path_le 0 lv.length lv rfl h1 i
  omega
theorem forged_l1 {lv : List Int} (hU : ∀ x ∈ lv, U x) (h1 : 1 ≤ lv.length) (hm : lv.length ≤ 1000) : ∀ (m i : Nat) (outs : List OT), lv.length - i = m → i ≤ lv.length → outs.length = lv.length → (∀ o ∈ outs, GF o) →
    ∃ F R, F.length = lv.length ∧ (∀ o ∈ F, GF o) ∧ Ev2 (fun n k => plexusref47_Forged.l1 n k lv (i : Int) outs) (F, R)
  | 0, i, outs, hm', hi, hl, hg => by
    refine ⟨outs, root 0 lv, hl, hg, Ev2.step (fun n k => plexusref47_Forged.l1_succ n k _ _ _) ?_⟩
    refine ev2F (dF (by omega)) (Ev2.bind (rroot_f lv.length lv rfl h1 (by omega) hU) (Ev2.now _))
  | m + 1, i, outs, hm', hi, hl, hg => by
    have hlt : i < outs.length := by omega
    have e := oD (L := outs) hlt
    have hgi := hg _ (List.getElem_mem hlt)
    obtain ⟨F, R, f1, f2, f3⟩ := forged_l1 hU h1 hm m (i + 1) (outs.set i (outs[i].1, outs[i].2.1, outs[i].2.2.1, outs[i].2.2.2.1, path 0 lv i)) (by omega) (by omega) (by rw [List.length_set]; exact hl) fun o ho => by
      rcases List.mem_or_eq_of_mem_set ho with q | q
      · exact hg o q
      · rw [q]; exact ⟨path_good hU h1 hm i, hgi.2⟩
    refine ⟨F, R, f1, f2, Ev2.step (fun n k => plexusref47_Forged.l1_succ n k _ _ _) ?_⟩
    refine ev2T (dT (by omega)) (Ev2.bind (ropen_f (i := i) (by omega) (by omega) hU) (ev2T (by omega) (ev2T (by omega) ?_)))
    rw [e, inc64 (by omega), Int.toNat_natCast]
    exact f3
theorem forged_l0 {l : List Int} (hS : ∀ x ∈ l, S x) (h1 : 1 ≤ l.length) (hm : l.length ≤ 10) (s : Int) : ∀ (m i : Nat) (lv : List Int) (outs : List OT), l.length - i = m → i ≤ l.length → lv.length = i → outs.length = i → (∀ x ∈ lv, U x) → (∀ o ∈ outs, GF o) →
    ∃ F R, F.length = l.length ∧ (∀ o ∈ F, GF o) ∧ Ev2 (fun n k => plexusref47_Forged.l0 n k l s (i : Int) lv outs) (F, R)
  | 0, i, lv, outs, hm', hi, e1, e2, hU, hg => by
    obtain ⟨F, R, f1, f2, f3⟩ := forged_l1 (lv := lv) hU (by omega) (by omega) lv.length 0 outs (by omega) (by omega) (by omega) hg
    refine ⟨F, R, by omega, f2, Ev2.step (fun n k => plexusref47_Forged.l0_succ n k _ _ _ _ _) ?_⟩
    exact ev2F (dF (by omega)) (Ev2.of f3.diag)
  | m + 1, i, lv, outs, hm', hi, e1, e2, hU, hg => by
    have hlt : i < l.length := by omega
    have hx : S (List.getD l (Int.toNat (i : Int)) (Int.ofNat 0)) := by rw [getD_get hlt]; exact hS _ (List.getElem_mem hlt)
    generalize hv : (if i = 0 then IntKind.wrap IntKind.i64 ((l.length : Int) - 1) else 0) = b
    have hb : S b := by
      rw [← hv]
      split
      · rw [wrap_i64']; exact S_wrap _
      · unfold S; omega
    have hgf : GF ((i : Int), List.getD l (Int.toNat (i : Int)) (Int.ofNat 0), b, key s (i : Int), []) := ⟨⟨fun x hx => (by cases hx), (by simp)⟩, hx, hb, key_S _ _⟩
    obtain ⟨F, R, f1, f2, f3⟩ := forged_l0 hS h1 hm s m (i + 1) (lv ++ [leaf ((i : Int), List.getD l (Int.toNat (i : Int)) (Int.ofNat 0), b, key s (i : Int), [])]) (outs ++ [((i : Int), List.getD l (Int.toNat (i : Int)) (Int.ofNat 0), b, key s (i : Int), [])]) (by omega) (by omega) (by simp; omega) (by simp; omega) (fun x hx => by
      rcases List.mem_append.1 hx with q | q
      · exact hU x q
      · rw [List.mem_singleton.1 q]; exact leaf_U _) (fun o ho => by
      rcases List.mem_append.1 ho with q | q
      · exact hg o q
      · rw [List.mem_singleton.1 q]; exact hgf)
    have j0 : Ev2 (fun n k => plexusref47_Forged.j0 k n l s (i : Int) lv outs (key s (i : Int)) b) (F, R) := by
      refine Ev2.congr (fun n k => plexusref47_Forged.j0_eq k n _ _ _ _ _ _ _) ?_
      refine ev2T (by simp; omega) (Ev2.bind (rleaf_f _) (ev2T (by simp; omega) ?_))
      rw [inc64 (by omega)]
      exact f3
    refine ⟨F, R, f1, f2, Ev2.step (fun n k => plexusref47_Forged.l0_succ n k _ _ _ _ _) ?_⟩
    refine ev2T (dT (by omega)) (ev2T (by omega) (ev2T (by omega) (Ev2.bind (rkey_f s _) ?_)))
    by_cases h0 : i = 0
    · rw [if_pos h0] at hv
      rw [← hv] at j0
      exact ev2T (bT (by omega)) j0
    · rw [if_neg h0] at hv
      rw [← hv] at j0
      exact ev2F (bF (by omega)) j0
theorem forged_f {l : List Int} (hS : ∀ x ∈ l, S x) (h1 : 1 ≤ l.length) (hm : l.length ≤ 10) (s : Int) : ∃ F R, F.length = l.length ∧ (∀ o ∈ F, GF o) ∧ Ev (fun k => plexusref47_Forged.m k l s) (F, R) := by
  obtain ⟨F, R, f1, f2, f3⟩ := forged_l0 hS h1 hm s l.length 0 [] [] (by omega) (by omega) rfl rfl (by simp) (by simp)
  exact ⟨F, R, f1, f2, evX (fun k => plexusref47_Forged.m_eq k _ _) f3.diag⟩
/-! ### small numbers -/
theorem and_small (a : Int) {m : Nat} (h : m < 2 ^ 62) : ∃ w : Nat, w ≤ m ∧ IntKind.wrap IntKind.i64 (↑(BitVec.toNat (BitVec.ofInt (IntKind.bits IntKind.i64) a &&& BitVec.ofInt (IntKind.bits IntKind.i64) (m : Int))) : Int) = (w : Int) := by
  refine ⟨BitVec.toNat (BitVec.ofInt (IntKind.bits IntKind.i64) a &&& BitVec.ofInt (IntKind.bits IntKind.i64) (m : Int)), ?_, ?_⟩
  · rw [BitVec.toNat_and]
    refine Nat.le_trans Nat.and_le_right ?_
    rw [BitVec.ofInt_natCast, BitVec.toNat_ofNat]
    exact Nat.mod_le _ _
  · have : BitVec.toNat (BitVec.ofInt (IntKind.bits IntKind.i64) a &&& BitVec.ofInt (IntKind.bits IntKind.i64) (m : Int)) ≤ m := by
      rw [BitVec.toNat_and]
      refine Nat.le_trans Nat.and_le_right ?_
      rw [BitVec.ofInt_natCast, BitVec.toNat_ofNat]
      exact Nat.mod_le _ _
    rw [wrap_i64', w64 (by omega) (by omega)]
theorem u8_nat (x : Int) : ∃ n : Nat, IntKind.wrap IntKind.u8 x = (n : Int) ∧ n < 256 := by
  rw [show IntKind.wrap IntKind.u8 x = x % 256 from rfl]
  exact ⟨(x % 256).toNat, by omega, by omega⟩
theorem opn_good {v : Int} (l : List Int) (hl : l.length ≤ 100) (s : Int) (i : Nat) : Good (opn v l s i) :=
  ⟨opn_pathU v l s i, (path_good (lvs_U v l s) (by rw [lvs_len]; omega) (by rw [lvs_len]; omega) i).2⟩
theorem opn_plen {v : Int} (l : List Int) (hl : l.length ≤ 100) (s : Int) (i : Nat) : (opn v l s i).2.2.2.2.length ≤ 100000 := by
  rw [opn_path]
  have := path_le 0 (l.length + 1) (lvs v l s) (lvs_len _ _ _) (by omega) i
  omega
theorem bent_good {o : OT} (hg : Good o) (hl : o.2.2.2.2.length ≤ 100000) (hf : Fits o) {x y : Int} (hx : ∃ n : Nat, x = (n : Int) ∧ n < 256) (hy : ∃ n : Nat, y = (n : Int) ∧ n < 256) {by_ : Int} (hb : U by_) : ∃ b, Good b ∧ Ev (fun k => plexusref47_Bent.m k o (x, y) by_) b := by
  obtain ⟨a, rfl, ha⟩ := hx
  obtain ⟨c, rfl, hc⟩ := hy
  obtain ⟨b, ⟨_, ⟨e2, e3⟩, _⟩, h⟩ := bent_f hg.1 hl hf hc ha hb
  exact ⟨b, ⟨e2, by rw [e3]; exact hg.2⟩, h⟩
/-- One comparison of wholes. -/
theorem whole_eq {r n : Int} {L : List OT} (hl : L.length ≤ 1000) (hg : ∀ o ∈ L, Good o) : ∃ g, Ev (fun k => plexuslaw47_whole.m k r n L) g ∧ Ev (fun k => plexusref47_WholeIn.m k r n L) g ∧ g.1.2.length ≤ 1000 := by
  obtain ⟨g, h1, h2, h3⟩ := whole_both (r := r) (n := n) hl hg
  exact ⟨g, whole_of (by omega) h1, h2, h3⟩
theorem matches_of (hex : Ev (fun k => plexuslaw47_examples.m k) true) {a0 : List Int} (ha : ∀ x ∈ a0, BY x) {a1 : Int × Int × Int × Int} (s0 : S a1.1) {a2 : List Int} (hS : ∀ x ∈ a2, S x) : Ev (fun k => plexuslaw47_PrivateMatchesReference.m k a0 a1 a2) true := by
  refine evX (fun k => plexuslaw47_PrivateMatchesReference.m_eq k _ _ _) ?_
  refine Ev.bind hex (evF (by decide) ?_)
  by_cases h10 : (a2.length : Int) > 10
  · exact evT (dT h10) (Ev.now _)
  refine evF (dF h10) ?_
  obtain ⟨v, ⟨xv, l⟩, hv1, hv7, ok, hm⟩ := made_f ha
  obtain rfl : xv = (v : Int) := ok.pts
  have hlen : l.length ≤ 10 := ok.len
  obtain ⟨s, z1, z2, z3⟩ := a1
  have hl4 : ((v : Int), l).2.length ≤ 10000 := by show l.length ≤ _; omega
  have hlv : (lvs (v : Int) l s).length ≤ 100000 := by rw [lvs_len]; omega
  refine Ev.bind hm (Ev.bind (rcommit_f ((v : Int), l) s hl4) (Ev.bind (commit_f ((v : Int), l) s hl4) (evF (nF rfl) ?_)))
  refine Ev.bind (leaves_f ((v : Int), l) s hl4) (Ev.bind (rleaves_f ((v : Int), l) s hl4) (Ev.bind (same3_f _ hlv) (evF (notF rfl) ?_)))
  refine Ev.bind (agrees_f (cmt (v : Int) l s) ((v : Int), l) s hl4) (evF (notF (beq_self_eq_true _)) ?_)
  refine Ev.bind (agrees_f (cmt (v : Int) l s) ((v : Int), l) z1 hl4) (Ev.bind (rcommit_f ((v : Int), l) z1 hl4) (evF (xnF' rfl) ?_))
  refine Ev.bind (agrees_f (IntKind.wrap IntKind.u64 z1) ((v : Int), l) s hl4) (evF (xnF' rfl) ?_)
  have hsh : ∃ g : OT × Int, g.1.2.2.2.2.length ≤ 100000 ∧ Ev (fun k => plexuslaw47_shown.m k ((v : Int), l) s z2) g ∧ Ev (fun k => plexusref47_ShowIn.m k ((v : Int), l) s z2) g := by
    by_cases q : z2 < 0 ∨ (l.length : Int) < z2
    · exact ⟨((0, 0, 0, 0, []), 1), by simp, shown_arg _ s z2 q, rshow_arg _ s z2 q⟩
    · obtain ⟨i, rfl⟩ := Int.eq_ofNat_of_zero_le (a := z2) (by omega)
      have hi : i ≤ ((v : Int), l).2.length := by show i ≤ l.length; omega
      exact ⟨(opn v l s i, 0), opn_plen l (by omega) s i, shown_f ((v : Int), l) s hl4 hi, rshow_f ((v : Int), l) s hl4 hi⟩
  obtain ⟨g, g1, g2, g3⟩ := hsh
  refine Ev.bind g2 (Ev.bind g3 (evF (nF rfl) (Ev.bind (same47_f g.1 g1) (evF (notF rfl) ?_))))
  refine evF (by show ¬ (IntKind.wrap IntKind.i64 ((l.length : Int) + 1) = 0); rw [wrap_i64', w64 (by omega) (by omega)]; omega) ?_
  obtain ⟨w, hw, ew⟩ := and_small z2 (m := 255) (by decide)
  obtain ⟨m, hm15, em⟩ := and_small z1 (m := 15) (by decide)
  have ei : Go.Vx.divF BinOp.rem IntKind.i64 (w : Int) (IntKind.wrap IntKind.i64 ((l.length : Int) + 1)) = ((w % (l.length + 1) : Nat) : Int) := by
    rw [wrap_i64', w64 (by omega) (by omega), show (l.length : Int) + 1 = ((l.length + 1 : Nat) : Int) by omega, rem_range]
  have hi : w % (l.length + 1) ≤ l.length := by have := Nat.mod_lt w (y := l.length + 1) (by omega); omega
  have ew' : IntKind.wrap IntKind.i64 (↑(BitVec.toNat (BitVec.ofInt (IntKind.bits IntKind.i64) z2 &&& BitVec.ofInt (IntKind.bits IntKind.i64) 255)) : Int) = (w : Int) := ew
  have em' : IntKind.wrap IntKind.i64 (↑(BitVec.toNat (BitVec.ofInt (IntKind.bits IntKind.i64) z1 &&& BitVec.ofInt (IntKind.bits IntKind.i64) 15)) : Int) = (m : Int) := em
  show Ev (fun k => _) true
  simp only [ew', em', ei]
  generalize hii : w % (l.length + 1) = i at hi
  have sho := rshow_f ((v : Int), l) s hl4 (i := i) hi
  have og := opn_good (v := (v : Int)) l (by omega) s i
  have ol := opn_plen (v := (v : Int)) l (by omega) s i
  have of_ := opn_fits (v := (v : Int)) (by unfold S; omega) l (by omega) s i
  refine Ev.bind sho ?_
  show Ev (fun k => _) true
  generalize opn (v : Int) l s i = o at og ol of_
  generalize cmt (v : Int) l s = r
  obtain ⟨b, bg, hb⟩ := bent_good og ol of_ (u8_nat z1) (u8_nat (Go.Vx.shF BinOp.shr IntKind.i64 z1 8)) (wrap_U z3)
  refine Ev.bind hb ?_
  refine Ev.bind (checked_of (pc_f (r := r) (n := (l.length : Int)) bg)) (Ev.bind (rpc_f (r := r) (n := (l.length : Int)) bg) (evF (nF rfl) ?_))
  refine Ev.bind (checked_of (pc_f (r := r) (n := z3) og)) (Ev.bind (rpc_f (r := r) (n := z3) og) (evF (nF rfl) ?_))
  have cg : Good (z3, o.2.1, o.2.2.1, o.2.2.2.1, o.2.2.2.2) := og
  refine Ev.bind (checked_of (pc_f (r := r) (n := (l.length : Int)) cg)) (Ev.bind (rpc_f (r := r) (n := (l.length : Int)) cg) (evF (nF rfl) ?_))
  refine Ev.bind (checked_of (pc_f (r := r) (n := (m : Int)) og)) (Ev.bind (rpc_f (r := r) (n := (m : Int)) og) (evF (nF rfl) ?_))
  by_cases h0 : a2.length = 0
  · obtain ⟨g, q1, q2, _⟩ := whole_eq (r := r) (n := z3) (L := []) (by simp) (by simp)
    refine evT (bT (by omega)) (evT (by first | rfl | trivial) (Ev.bind q1 (Ev.bind q2 ?_)))
    rw [beq_self_eq_true]
    exact Ev.now _
  refine evF (bF (by omega)) ?_
  obtain ⟨F, R, f1, f2, f3⟩ := forged_f hS (by omega) (by omega) s
  refine Ev.bind f3 ?_
  show Ev (fun k => _) true
  have hF : 1 ≤ F.length := by omega
  have ej : Go.Vx.divF BinOp.rem IntKind.i64 (w : Int) (F.length : Int) = ((w % F.length : Nat) : Int) := rem_range
  have hj : w % F.length < F.length := Nat.mod_lt _ (by omega)
  generalize hjj : w % F.length = j at ej hj
  have e0 := oD (L := F) (i := 0) (by omega)
  have ejj := oD (L := F) hj
  have hF0 := f2 _ (List.getElem_mem (show 0 < F.length by omega))
  have hFj := f2 _ (List.getElem_mem hj)
  have e00 : List.getD F (Int.toNat 0) (Int.ofNat 0, Int.ofNat 0, Int.ofNat 0, Int.ofNat 0, []) = F[0] := e0
  simp only [ej, ejj, e00]
  refine evT (by omega) (evT (by simp; omega) (evF (by omega) (evT (by omega) (evT (by omega) (evT (by simp; omega) (evT (by omega) ?_))))))
  obtain ⟨b2, bg2, hb2⟩ := bent_good hF0.1 hF0.1.2 hF0.2 (u8_nat z2) (y := 0) ⟨0, rfl, by decide⟩ (wrap_U z3)
  refine Ev.bind hb2 (evT (by simp; omega) ?_)
  have gF : ∀ o ∈ F, Good o := fun o ho => (f2 o ho).1
  obtain ⟨g1_, p1, p2, p3⟩ := whole_eq (r := R) (n := IntKind.wrap IntKind.i64 ((a2.length : Int) - 1)) (L := F) (by omega) gF
  refine Ev.bind p1 (Ev.bind p2 (evT (by first | rfl | trivial) (evT (beq_self_eq_true _) (Ev.bind (same6x_f g1_.1 (by omega)) (evT rfl ?_)))))
  obtain ⟨g2_, p4, p5, _⟩ := whole_eq (r := R) (n := IntKind.wrap IntKind.i64 ((a2.length : Int) - 1)) (L := List.drop (Int.toNat 1) F ++ [F[j]]) (by simp; omega) (fun o ho => by
    rcases List.mem_append.1 ho with q | q
    · exact gF o (List.mem_of_mem_drop q)
    · rw [List.mem_singleton.1 q]; exact hFj.1)
  refine Ev.bind p4 (Ev.bind p5 (evT (beq_self_eq_true _) ?_))
  obtain ⟨g3_, p6, p7, _⟩ := whole_eq (r := R) (n := IntKind.wrap IntKind.i64 ((a2.length : Int) - 1)) (L := b2 :: F) (by simp; omega) (fun o ho => by
    rcases List.mem_cons.1 ho with q | q
    · rw [q]; exact bg2
    · exact gF o q)
  refine Ev.bind p6 (Ev.bind p7 (evT (beq_self_eq_true _) ?_))
  obtain ⟨g4_, p8, p9, _⟩ := whole_eq (r := R) (n := (m : Int)) (L := F) (by omega) gF
  refine Ev.bind p8 (Ev.bind p9 ?_)
  rw [beq_self_eq_true]
  exact Ev.now _
end Go.Proofs.YtchpkglnmpmcmaaQ
