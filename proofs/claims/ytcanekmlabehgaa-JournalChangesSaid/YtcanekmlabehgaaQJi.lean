/- Lists of bytes and lists of records that are compared: the answer is whether they are the same. -/
import Derived.Test.YtcanekmlabehgaaQJh
namespace Go.Proofs.YtcanekmlabehgaaQ
set_option linter.unusedVariables false
set_option linter.unusedSimpArgs false
open Go.RowKit Go.Proofs.Ytcanekmlabehgaa.P46 Go.Proofs.YtcanekmlabehgaaW.PrintWords Go.Proofs.YtcanekmlabehgaaW.PrintLast Go.Proofs.YtcanekmlabehgaaW.PrintMore
theorem byte_inj {a b : Int} (ha : BY a) (hb : BY b) (h : UInt8.ofNat a.toNat = UInt8.ofNat b.toNat) : a = b := by
  have h1 := congrArg UInt8.toNat h
  have ha1 := ha.1
  have ha2 := ha.2
  have hb1 := hb.1
  have hb2 := hb.2
  simp only [UInt8.toNat_ofNat'] at h1
  omega
theorem bytes_inj46 : ∀ (a b : List Int), (∀ x ∈ a, BY x) → (∀ x ∈ b, BY x) → a.map (fun n => UInt8.ofNat n.toNat) = b.map (fun n => UInt8.ofNat n.toNat) → a = b
  | [], [], _, _, _ => rfl
  | [], _ :: _, _, _, h => by simp at h
  | _ :: _, [], _, _, h => by simp at h
  | x :: a, y :: b, ha, hb, h => by
    simp only [List.map_cons, List.cons.injEq] at h
    rw [byte_inj (ha x (by simp)) (hb y (by simp)) h.1, bytes_inj46 a b (fun z hz => ha z (by simp [hz])) (fun z hz => hb z (by simp [hz])) h.2]
theorem same_dec {a b : List Int} (ha : ∀ x ∈ a, BY x) (hb : ∀ x ∈ b, BY x) : Ev (fun k => plexusref46_Same.f a b) (decide (a = b)) := by
  unfold plexusref46_Same.f
  have e : ((strOfNums a).toList == (strOfNums b).toList) = decide (a = b) := by
    rw [ByteArray.toList_eq, ByteArray.toList_eq, strOfNums_data, strOfNums_data]
    by_cases h : a = b
    · subst h; simp
    · rw [decide_eq_false h, beq_eq_false_iff_ne]
      exact fun e => h (bytes_inj46 a b ha hb e)
  rw [e]
  exact Ev.now _
theorem recsD_l1 (l m : List (List Int)) (hn : l.length ≤ 1000) (hlm : l.length = m.length) (hs : ∀ r ∈ l, r.length ≤ 1000) (i : Nat) (hi : i < l.length) (hrs : (l.getD i []).length = (m.getD i []).length) (b : Bool) (h : Ev (fun k => plexusref46_Records.l0 k l m ((i + 1 : Nat) : Int)) b) :
    ∀ (q j : Nat), (l.getD i []).length - j = q → Ev (fun k => plexusref46_Records.l1 k l m (i : Int) (j : Int)) (decide ((l.getD i []).drop j = (m.getD i []).drop j) && b)
  | 0, j, hq => by
    refine Ev.step (fun k => by rw [plexusref46_Records.l1]) ?_
    rw [List.drop_of_length_le (by omega), List.drop_of_length_le (l := m.getD i []) (by omega)]
    refine evJT (by omega) (evJT (by omega) (evJF (by rw [rdL_nat]; omega) ?_))
    rw [w64 (x := (i : Int) + 1) (by omega) (by omega), show (i : Int) + 1 = ((i + 1 : Nat) : Int) by omega]
    simpa using h
  | q + 1, j, hq => by
    have hr := hs _ (getD_mem (d := []) hi)
    have hj : j < (l.getD i []).length := by omega
    have hj2 : j < (m.getD i []).length := by omega
    refine Ev.step (fun k => by rw [plexusref46_Records.l1]) ?_
    refine evJT (by omega) (evJT (by omega) (evJT (by rw [rdL_nat]; omega) (evJT (by omega) (evJT (by omega) (evJT (by rw [rdL_nat]; omega) ?_)))))
    rw [rdL_nat, rdL_nat, List.drop_eq_getElem_cons hj, List.drop_eq_getElem_cons hj2]
    rw [show rd (l.getD i []) (j : Int) = (l.getD i [])[j] by rw [rd_nat46, List.getD_eq_getElem?_getD, List.getElem?_eq_getElem hj]; rfl, show rd (m.getD i []) (j : Int) = (m.getD i [])[j] by rw [rd_nat46, List.getD_eq_getElem?_getD, List.getElem?_eq_getElem hj2]; rfl]
    generalize (l.getD i [])[j] = x
    generalize (m.getD i [])[j] = y
    by_cases hxy : x = y
    · refine evJT hxy ?_
      rw [w64 (x := (j : Int) + 1) (by omega) (by omega), show (j : Int) + 1 = ((j + 1 : Nat) : Int) by omega]
      have ih := recsD_l1 l m hn hlm hs i hi hrs b h q (j + 1) (by omega)
      subst hxy
      simpa using ih
    · refine evJF hxy ?_
      rw [decide_eq_false (fun e => hxy (List.cons.inj e).1)]
      exact Ev.now _
theorem recsD_l0 (l m : List (List Int)) (hn : l.length ≤ 1000) (hlm : l.length = m.length) (hs : ∀ r ∈ l, r.length ≤ 1000) : ∀ (q i : Nat), l.length - i = q → Ev (fun k => plexusref46_Records.l0 k l m (i : Int)) (decide (l.drop i = m.drop i))
  | 0, i, hq => by
    refine Ev.step (fun k => by rw [plexusref46_Records.l0]) ?_
    rw [List.drop_of_length_le (by omega), List.drop_of_length_le (l := m) (by omega)]
    exact evJF (by omega) (Ev.now _)
  | q + 1, i, hq => by
    have hi : i < l.length := by omega
    have him : i < m.length := by omega
    refine Ev.step (fun k => by rw [plexusref46_Records.l0]) ?_
    refine evJT (by omega) (evJT (by omega) (evJT (by omega) ?_))
    rw [rdL_nat, rdL_nat]
    have ih := recsD_l0 l m hn hlm hs q (i + 1) (by omega)
    have e : decide (l.drop i = m.drop i) = (decide (l.getD i [] = m.getD i []) && decide (l.drop (i + 1) = m.drop (i + 1))) := by
      rw [List.drop_eq_getElem_cons hi, List.drop_eq_getElem_cons him, show l[i] = l.getD i [] by simp [List.getD, hi], show m[i] = m.getD i [] by simp [List.getD, him]]
      generalize l.getD i [] = u
      generalize m.getD i [] = v
      rw [Bool.eq_iff_iff]
      simp
    by_cases hrs : (l.getD i []).length = (m.getD i []).length
    · refine evJT (by omega) ?_
      rw [e]
      have := recsD_l1 l m hn hlm hs i hi hrs _ ih _ 0 rfl
      simpa using this
    · refine evJF (by omega) ?_
      rw [e, decide_eq_false (fun (h : l.getD i [] = m.getD i []) => hrs (by rw [h]))]
      exact Ev.now _
theorem recs_dec {l m : List (List Int)} (hn : l.length ≤ 1000) (hs : ∀ r ∈ l, r.length ≤ 1000) : Ev (fun k => plexusref46_Records.f k l m) (decide (l = m)) := by
  unfold plexusref46_Records.f
  by_cases h : l.length = m.length
  · refine evJT (by omega) ?_
    have := recsD_l0 l m hn h hs _ 0 rfl
    simpa using this
  · refine evJF (by omega) ?_
    rw [decide_eq_false (fun e => h (by rw [e]))]
    exact Ev.now _
end Go.Proofs.YtcanekmlabehgaaQ
