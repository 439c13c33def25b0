/- Private: the openings of all places. -/
import Derived.Test.YtchpkglnmpmcmaaQC
import Derived.Test.YtchpkglnmpmcmaaX47V
namespace Go.Proofs.YtchpkglnmpmcmaaQ
set_option linter.unusedVariables false
set_option linter.unusedSimpArgs false
open Go Go.RowKit Go.Proofs.Ytchpkglnmpmcmaa.V47 Go.Proofs.YtchpkglnmpmcmaaW.PrintWords Go.Proofs.YtchpkglnmpmcmaaW.PrintLast Go.Proofs.YtchpkglnmpmcmaaW.PrintMore
/-- The openings of all places. -/
def opns (v : Int) (l : List Int) (s : Int) : List OT := (List.range (l.length + 1)).map (opn v l s)
theorem opns_len (v : Int) (l : List Int) (s : Int) : (opns v l s).length = l.length + 1 := by simp [opns]
theorem opns_get (v : Int) (l : List Int) (s : Int) {i : Nat} (h : i ≤ l.length) : (opns v l s)[i]? = some (opn v l s i) := by
  unfold opns; rw [List.getElem?_map, List.getElem?_range (by omega)]; rfl
theorem opns_getD (v : Int) (l : List Int) (s : Int) {i : Nat} (h : i ≤ l.length) (d : OT) : List.getD (opns v l s) (Int.toNat (i : Int)) d = opn v l s i := by
  rw [Int.toNat_natCast, List.getD_eq_getElem?_getD, opns_get v l s h]; rfl
theorem opns_mem {v : Int} {l : List Int} {s : Int} {o : OT} (h : o ∈ opns v l s) : ∃ i, i ≤ l.length ∧ o = opn v l s i := by
  obtain ⟨i, hi, rfl⟩ := List.mem_map.1 h
  exact ⟨i, by have := List.mem_range.1 hi; omega, rfl⟩
theorem every_l0 (x : Int × List Int) (s : Int) (hl : x.2.length ≤ 10000) : ∀ (m i : Nat), x.2.length + 1 - i = m → i ≤ x.2.length + 1 →
    Ev2 (fun n k => plexuslaw47_every.l0 n k x s (i : Int) ((List.range i).map (opn x.1 x.2 s))) (opns x.1 x.2 s, true)
  | 0, i, hm, hi => by
    refine Ev2.step (fun n k => plexuslaw47_every.l0_succ n k _ _ _ _) ?_
    obtain rfl : i = x.2.length + 1 := by omega
    exact ev2F (dF (by omega)) (Ev2.now _)
  | m + 1, i, hm, hi => by
    refine Ev2.step (fun n k => plexuslaw47_every.l0_succ n k _ _ _ _) ?_
    have next := every_l0 x s hl m (i + 1) (by omega) (by omega)
    rw [List.range_succ, List.map_append] at next
    rw [inc64 (by omega)]
    refine ev2T (dT (by omega)) (Ev2.bind (shown_f x s hl (i := i) (by omega)) (ev2F (nF rfl) (ev2T (by simp; omega) ?_)))
    exact next
theorem every_f (x : Int × List Int) (s : Int) (hl : x.2.length ≤ 10000) : Ev (fun k => plexuslaw47_every.m k x s) (opns x.1 x.2 s, true) := by
  refine evX (fun k => plexuslaw47_every.m_eq k _ _) ?_
  exact (every_l0 x s hl _ 0 rfl (by omega)).diag
theorem sameb_l0 (l : List Int) (hl : l.length ≤ 10000) : ∀ (m i : Nat), l.length - i = m → i ≤ l.length → Ev2 (fun n k => plexusref06_SameBlocks.l0 n k l l (i : Int)) true
  | 0, i, hm, hi => by
    refine Ev2.step (fun n k => plexusref06_SameBlocks.l0_succ n k _ _ _) ?_
    exact ev2F (dF (by omega)) (Ev2.now _)
  | m + 1, i, hm, hi => by
    refine Ev2.step (fun n k => plexusref06_SameBlocks.l0_succ n k _ _ _) ?_
    rw [inc64 (by omega)]
    exact ev2T (dT (by omega)) (ev2T (by omega) (ev2T (by omega) (ev2T (by omega) (ev2T (by omega) (ev2F (nF rfl) (sameb_l0 l hl m (i + 1) (by omega) (by omega)))))))
theorem same6_f (x : Int × List Int) (hl : x.2.length ≤ 10000) : Ev (fun k => plexusref06_Same.m k x x) true := by
  refine evX (fun k => plexusref06_Same.m_eq k _ _) (evT (bT rfl) (Ev.bind (a := true) ?_ (Ev.now _)))
  refine evX (fun k => plexusref06_SameBlocks.m_eq k _ _) (evF (nF rfl) ?_)
  exact (sameb_l0 x.2 hl _ 0 rfl (by omega)).diag
theorem is_f (x : Int × List Int) (hl : x.2.length ≤ 10000) : Ev (fun k => plexuslaw47_is.m k (x, 0) x) true := by
  refine evX (fun k => plexuslaw47_is.m_eq k _ _) (evT rfl (Ev.bind (same6_f x hl) (Ev.now _)))
/-- What a structure says at its places. -/
def saysAt (v : Int) (l : List Int) (i : Nat) : Int := if i = 0 then v else wrap64 (l.getD (i - 1) 0)
theorem opn_says (v : Int) (l : List Int) (s : Int) (i : Nat) : (opn v l s i).2.1 = saysAt v l i := by
  unfold opn plc saysAt
  by_cases h : i = 0
  · rw [if_pos h, if_pos h]
  · rw [if_neg h, if_neg h]
theorem says_blocks {v : Int} {l : List Int} (hl : ∀ y ∈ l, U y) : ((List.range l.length).map fun i => IntKind.wrap IntKind.u64 (saysAt v l (i + 1))) = l := by
  apply List.ext_getElem?
  intro i
  rw [List.getElem?_map]
  by_cases h : i < l.length
  · rw [List.getElem?_range h, List.getElem?_eq_getElem h]
    show some (IntKind.wrap IntKind.u64 (saysAt v l (i + 1))) = _
    unfold saysAt
    rw [if_neg (by omega), Nat.add_sub_cancel, List.getD_eq_getElem?_getD, List.getElem?_eq_getElem h]
    exact congrArg some (wrap_w64 (hl _ (List.getElem_mem h)))
  · rw [List.getElem?_eq_none (by simp; omega), List.getElem?_eq_none (by omega)]; rfl
theorem pcheck_opn (v : Int) (l : List Int) (hl : l.length ≤ 64) (s : Int) {i : Nat} (hi : i ≤ l.length) : Ev (fun k => private_Check.m k (cmt v l s) l.length (opn v l s i)) 0 := by
  have h := pcheck_f (r := cmt v l s) (n := l.length) (i := i) (o := opn v l s i) hl hi (opn_at _ _ _ _) (opn_pathU _ _ _ _)
  rwa [chk_opn v l s hi] at h
/-- Openings of one structure, of all places: the whole is the structure. -/
theorem whole_opens {v : Nat} (h1 : 1 ≤ v) (h7 : v ≤ 16) {l : List Int} (hl : l.length ≤ 64) (ha : Asc l) (hp : ∀ b ∈ l, PB v b) (s : Int) {L : List OT} (hL : L.length ≤ 20000) (hm : ∀ o ∈ L, ∃ i, i ≤ l.length ∧ o = opn v l s i) (hall : ∀ i, i ≤ l.length → opn v l s i ∈ L) :
    Ev (fun k => plexuslaw47_whole.m k (cmt v l s) l.length L) (((v : Int), l), 0) := by
  have hU : ∀ y ∈ l, U y := fun y hy => PB_U (by omega) (hp y hy)
  have hs : Says l.length (saysAt (v : Int) l) L := fun o ho => by
    obtain ⟨i, hi, rfl⟩ := hm o ho
    exact ⟨i, hi, opn_at _ _ _ _, opn_says _ _ _ _⟩
  have h := pwhole_all (r := cmt v l s) (n := l.length) hl hL (fun o ho => by
    obtain ⟨i, hi, rfl⟩ := hm o ho
    exact pcheck_opn _ _ hl _ hi) hs (fun i hi => ⟨_, hall i hi, opn_at _ _ _ _⟩) (b := true) (by
      rw [says_blocks hU]; exact valid_f h1 h7 hl ha hp)
  rw [if_pos rfl, says_blocks hU] at h
  exact whole_of hL h
end Go.Proofs.YtchpkglnmpmcmaaQ
