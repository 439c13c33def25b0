/- What the whole of openings is. -/
import Derived.Test.YtchpkglnmpmcmaaQW
namespace Go.Proofs.YtchpkglnmpmcmaaQ
set_option linter.unusedVariables false
set_option linter.unusedSimpArgs false
open Go Go.RowKit Go.Proofs.Ytchpkglnmpmcmaa.P47 Go.Proofs.Ytchpkglnmpmcmaa.V47 Go.Proofs.YtchpkglnmpmcmaaW.PrintWords Go.Proofs.YtchpkglnmpmcmaaW.PrintLast Go.Proofs.YtchpkglnmpmcmaaW.PrintMore
open Go.Vx (mget mset)
/-- What one more accepted opening does. -/
def wst (p : Bool × List (Int × Int)) (o : OT) : Bool × List (Int × Int) :=
  (if p.1 = true then true else if (mget o.1 p.2).isSome = true then (mget o.1 p.2).getD 0 != o.2.1 else false, mset o.1 o.2.1 p.2)
theorem whole_l0 {r n : Int} {L : List OT} (hl : L.length ≤ 20000) (hc : ∀ o ∈ L, Ev (fun k => private_Check.m k r n o) 0) {T : Bool} {M : List (Int × Int)} {res : (Int × List Int) × Int}
    (hfin : Ev2 (fun a k => private_Whole.l0 a k r n L T (L.length : Int) M) res) : ∀ (m i : Nat) (t : Bool) (mp : List (Int × Int)), L.length - i = m → i ≤ L.length → (L.drop i).foldl wst (t, mp) = (T, M) → Ev2 (fun a k => private_Whole.l0 a k r n L t (i : Int) mp) res
  | 0, i, t, mp, hm, hi, he => by
    obtain rfl : i = L.length := by omega
    rw [List.drop_length, List.foldl_nil] at he
    obtain ⟨rfl, rfl⟩ := Prod.mk.inj he
    exact hfin
  | m + 1, i, t, mp, hm, hi, he => by
    have hlt : i < L.length := by omega
    rw [List.drop_eq_getElem_cons hlt, List.foldl_cons] at he
    have next := whole_l0 hl hc hfin m (i + 1) _ _ (by omega) (by omega) he
    have e2 : List.getD L (Int.toNat (i : Int)) (Int.ofNat 0, Int.ofNat 0, Int.ofNat 0, Int.ofNat 0, []) = L[i] := by
      rw [Int.toNat_natCast, List.getD_eq_getElem?_getD, List.getElem?_eq_getElem hlt]; rfl
    refine Ev2.step (fun a k => private_Whole.l0_succ a k _ _ _ _ _ _) ?_
    rw [inc64 (by omega), e2]
    refine ev2T (dT (by omega)) (ev2T (by omega) (ev2T (by omega) (Ev2.bind (hc L[i] (List.getElem_mem hlt)) (ev2F (nF rfl) ?_))))
    cases t with
    | true => exact ev2T rfl next
    | false =>
      refine ev2F (by decide) ?_
      by_cases hs : (mget L[i].1 mp).isSome = true
      · refine ev2T hs ?_
        simpa [hs] using next
      · refine ev2F hs ?_
        simpa [hs] using next
/-- An opening that is not accepted ends it. -/
theorem whole_bad {r n : Int} {L : List OT} (hl : L.length ≤ 20000) {j : Nat} (hj : j < L.length) {c : Int} (hc0 : c ≠ 0) (hcj : Ev (fun k => private_Check.m k r n L[j]) c) (hc : ∀ i (h : i < L.length), i < j → Ev (fun k => private_Check.m k r n L[i]) 0) :
    ∀ (m i : Nat) (t : Bool) (mp : List (Int × Int)), j - i = m → i ≤ j → Ev2 (fun a k => private_Whole.l0 a k r n L t (i : Int) mp) ((0, []), c)
  | 0, i, t, mp, hm, hi => by
    obtain rfl : i = j := by omega
    have e2 : List.getD L (Int.toNat (i : Int)) (Int.ofNat 0, Int.ofNat 0, Int.ofNat 0, Int.ofNat 0, []) = L[i] := by
      rw [Int.toNat_natCast, List.getD_eq_getElem?_getD, List.getElem?_eq_getElem hj]; rfl
    refine Ev2.step (fun a k => private_Whole.l0_succ a k _ _ _ _ _ _) ?_
    rw [e2]
    exact ev2T (dT (by omega)) (ev2T (by omega) (ev2T (by omega) (Ev2.bind hcj (ev2T (nT hc0) (Ev2.now _)))))
  | m + 1, i, t, mp, hm, hi => by
    have hlt : i < L.length := by omega
    have next := fun t' mp' => whole_bad hl hj hc0 hcj hc m (i + 1) t' mp' (by omega) (by omega)
    have e2 : List.getD L (Int.toNat (i : Int)) (Int.ofNat 0, Int.ofNat 0, Int.ofNat 0, Int.ofNat 0, []) = L[i] := by
      rw [Int.toNat_natCast, List.getD_eq_getElem?_getD, List.getElem?_eq_getElem hlt]; rfl
    refine Ev2.step (fun a k => private_Whole.l0_succ a k _ _ _ _ _ _) ?_
    rw [inc64 (by omega), e2]
    refine ev2T (dT (by omega)) (ev2T (by omega) (ev2T (by omega) (Ev2.bind (hc i hlt (by omega)) (ev2F (nF rfl) ?_))))
    cases t with
    | true => exact ev2T rfl (next _ _)
    | false =>
      refine ev2F (by decide) ?_
      by_cases hs : (mget L[i].1 mp).isSome = true
      · exact ev2T hs (next _ _)
      · exact ev2F hs (next _ _)
/-- The blocks that a map says. -/
def blks (M : List (Int × Int)) (n : Nat) : List Int := (List.range n).map fun i => IntKind.wrap IntKind.u64 ((mget ((i + 1 : Nat) : Int) M).getD 0)
theorem whole_l1 {n : Nat} (hn : n ≤ 64) {M : List (Int × Int)} {b : Bool} (hv : Ev (fun k => incidence_Valid.m k ((mget 0 M).getD 0, blks M n)) b) : ∀ (m i : Nat), n - i = m → i ≤ n → Ev2 (fun a k => private_Whole.l1 a k (n : Int) M (i : Int) (blks M i)) (if b = true then (((mget 0 M).getD 0, blks M n), 0) else ((0, []), 60))
  | 0, i, hm, hi => by
    refine Ev2.step (fun a k => private_Whole.l1_succ a k _ _ _ _) ?_
    obtain rfl : i = n := by omega
    refine ev2F (dF (by omega)) (Ev2.bind hv ?_)
    cases b with
    | true => exact ev2F (by decide) (Ev2.now _)
    | false => exact ev2T (by decide) (Ev2.now _)
  | m + 1, i, hm, hi => by
    refine Ev2.step (fun a k => private_Whole.l1_succ a k _ _ _ _) ?_
    have hlen : (blks M i).length = i := by simp [blks]
    rw [inc64 (by omega)]
    refine ev2T (dT (by omega)) (ev2T (by rw [hlen]; simp; omega) ?_)
    have := whole_l1 hn hv m (i + 1) (by omega) (by omega)
    have e : blks M (i + 1) = blks M i ++ [IntKind.wrap IntKind.u64 ((mget ((i + 1 : Nat) : Int) M).getD 0)] := by
      unfold blks; rw [List.range_succ, List.map_append]; rfl
    rw [e] at this
    exact this
/-- All openings are accepted: what the whole is. -/
theorem pwhole_f {r : Int} {n : Nat} (hn : n ≤ 64) {L : List OT} (hl : L.length ≤ 20000) (hc : ∀ o ∈ L, Ev (fun k => private_Check.m k r n o) 0) {M : List (Int × Int)} (hf : L.foldl wst (false, []) = (false, M)) (hM : n < M.length) {b : Bool} (hv : Ev (fun k => incidence_Valid.m k ((mget 0 M).getD 0, blks M n)) b) :
    Ev (fun k => private_Whole.m k r n L) (if b = true then (((mget 0 M).getD 0, blks M n), 0) else ((0, []), 60)) := by
  refine evX (fun k => private_Whole.m_eq k _ _ _) (evF (dF (by omega)) (evF (dF (by omega)) ?_))
  refine (whole_l0 hl hc (T := false) (M := M) ?_ L.length 0 false [] (by omega) (by omega) hf).diag
  refine Ev2.step (fun a k => private_Whole.l0_succ a k _ _ _ _ _ _) ?_
  refine ev2F (dF (by omega)) (ev2F (by decide) (ev2F (dF (by omega)) ?_))
  exact Ev2.of (whole_l1 hn hv n 0 (by omega) (by omega)).diag
/-- Some place lacks. -/
theorem pwhole_none {r : Int} {n : Nat} (hn : n ≤ 64) {L : List OT} (hl : L.length ≤ 20000) (hc : ∀ o ∈ L, Ev (fun k => private_Check.m k r n o) 0) {M : List (Int × Int)} (hf : L.foldl wst (false, []) = (false, M)) (hM : M.length ≤ n) :
    Ev (fun k => private_Whole.m k r n L) ((0, []), 4) := by
  refine evX (fun k => private_Whole.m_eq k _ _ _) (evF (dF (by omega)) (evF (dF (by omega)) ?_))
  refine (whole_l0 hl hc (T := false) (M := M) ?_ L.length 0 false [] (by omega) (by omega) hf).diag
  refine Ev2.step (fun a k => private_Whole.l0_succ a k _ _ _ _ _ _) ?_
  exact ev2F (dF (by omega)) (ev2F (by decide) (ev2T (dT (by omega)) (Ev2.now _)))
theorem pwhole_bad {r : Int} {n : Nat} (hn : n ≤ 64) {L : List OT} (hl : L.length ≤ 20000) {j : Nat} (hj : j < L.length) {c : Int} (hc0 : c ≠ 0) (hcj : Ev (fun k => private_Check.m k r n L[j]) c) (hc : ∀ i (h : i < L.length), i < j → Ev (fun k => private_Check.m k r n L[i]) 0) :
    Ev (fun k => private_Whole.m k r n L) ((0, []), c) := by
  refine evX (fun k => private_Whole.m_eq k _ _ _) (evF (dF (by omega)) (evF (dF (by omega)) ?_))
  exact (whole_bad hl hj hc0 hcj hc j 0 false [] (by omega) (by omega)).diag
theorem whole_of {r n : Int} {L : List OT} (hl : L.length ≤ 20000) {g : (Int × List Int) × Int} (h : Ev (fun k => private_Whole.m k r n L) g) : Ev (fun k => plexuslaw47_whole.m k r n L) g := by
  refine evX (fun k => plexuslaw47_whole.m_eq k _ _ _) ?_
  exact Ev.bind (all_f L hl) (Ev.bind h (Ev.now _))
end Go.Proofs.YtchpkglnmpmcmaaQ
