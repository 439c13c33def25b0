/- Registries that the reference makes: they are made, and bounded. -/
import Derived.Test.YtjnpcpnjcieheaaGreatQF
namespace Go.Proofs.YtjnpcpnjcieheaaGreatQ
set_option linter.unusedVariables false
set_option linter.unusedSimpArgs false
open Go Go.RowKit Go.Proofs.YtjnpcpnjcieheaaGreat.P47 Go.Proofs.YtjnpcpnjcieheaaGreat.V48 Go.Proofs.YtjnpcpnjcieheaaGreatW.PrintWords Go.Proofs.YtjnpcpnjcieheaaGreatW.PrintLast Go.Proofs.YtjnpcpnjcieheaaGreatW.PrintMore

theorem form_l0 (v : Int) {x : Int × List Int} (hx : x.2.length ≤ 900) (hu : ∀ z ∈ x.2, U z) {R : List (List Int)} (hR : R.length ≤ 900000) (hm : ∀ g ∈ R, g.length ≤ 1000) :
    ∀ (p i : Nat) (v1 v8 : List Int), R.length - i = p → i ≤ R.length → v8.length = x.2.length → (∀ z ∈ v8, U z) →
      ∃ r : (Int × List Int) × List Int × Int, r.1.1 = x.1 ∧ r.1.2.length = x.2.length ∧ (∀ z ∈ r.1.2, U z) ∧ Ev2 (fun n k => plexusref19_Form.l0 n k v x R v1 (i : Int) x.1 v8) r
  | 0, i, v1, v8, hp, hi, h1, h2 => ⟨((x.1, v8), v1, 0), rfl, h1, h2, Ev2.step (fun n k => plexusref19_Form.l0_succ n k _ _ _ _ _ _ _) (ev2F (dF (by omega)) (Ev2.now _))⟩
  | p + 1, i, v1, v8, hp, hi, h1, h2 => by
    have hlt : i < R.length := by omega
    obtain ⟨y, y1, y2, y3, y4⟩ := image_f hx hu (hm _ (List.getElem_mem hlt))
    have J : ∀ b : Bool, ∃ r : (Int × List Int) × List Int × Int, r.1.1 = x.1 ∧ r.1.2.length = x.2.length ∧ (∀ z ∈ r.1.2, U z) ∧ Ev2 (fun n k => plexusref19_Form.j0 k n v x R v1 (i : Int) x.1 v8 y b) r := fun b => by
      cases b with
      | true =>
        obtain ⟨r, q1, q2, q3, q4⟩ := form_l0 v hx hu hR hm p (i + 1) (List.getD R (Int.toNat (i : Int)) []) y.2 (by omega) (by omega) y2 y3
        refine ⟨r, q1, q2, q3, Ev2.congr (fun n k => plexusref19_Form.j0_eq k n _ _ _ _ _ _ _ _ _) (ev2T rfl (ev2T (by omega) (ev2T (by omega) ?_)))⟩
        rw [inc64 (by omega), y1]; exact q4
      | false =>
        obtain ⟨r, q1, q2, q3, q4⟩ := form_l0 v hx hu hR hm p (i + 1) v1 v8 (by omega) (by omega) h1 h2
        refine ⟨r, q1, q2, q3, Ev2.congr (fun n k => plexusref19_Form.j0_eq k n _ _ _ _ _ _ _ _ _) (ev2F (by decide) ?_)⟩
        rw [inc64 (by omega)]; exact q4
    have go : ∀ g : Nat → Nat → Option ((Int × List Int) × List Int × Int), (∀ n k, plexusref19_Form.l0 (n + 1) k v x R v1 (i : Int) x.1 v8 = (plexusref06_Image.m k x R[i]).bind fun y => g n k) → (∃ r : (Int × List Int) × List Int × Int, r.1.1 = x.1 ∧ r.1.2.length = x.2.length ∧ (∀ z ∈ r.1.2, U z) ∧ Ev2 g r) → True := fun _ _ _ => trivial
    obtain ⟨b1, l1⟩ := less_f (a := y.2) (b := v8) (by omega) (by omega)
    obtain ⟨b2, l2⟩ := less_f (a := v8) (b := y.2) (by omega) (by omega)
    by_cases c1 : (v == 1) = true
    · cases b1 with
      | true =>
        obtain ⟨r, q1, q2, q3, q4⟩ := J true
        refine ⟨r, q1, q2, q3, Ev2.step (fun n k => plexusref19_Form.l0_succ n k _ _ _ _ _ _ _) (ev2T (dT (by omega)) (ev2T (by omega) (ev2T (by omega) ?_)))⟩
        rw [gd hlt]
        exact Ev2.bind y4 (ev2T c1 (Ev2.bind l1 (ev2T rfl q4)))
      | false =>
        by_cases c2 : (v == 2) = true
        · obtain ⟨r, q1, q2, q3, q4⟩ := J b2
          refine ⟨r, q1, q2, q3, Ev2.step (fun n k => plexusref19_Form.l0_succ n k _ _ _ _ _ _ _) (ev2T (dT (by omega)) (ev2T (by omega) (ev2T (by omega) ?_)))⟩
          rw [gd hlt]
          exact Ev2.bind y4 (ev2T c1 (Ev2.bind l1 (ev2F (by decide) (ev2T c2 (Ev2.bind l2 q4)))))
        · obtain ⟨r, q1, q2, q3, q4⟩ := J false
          refine ⟨r, q1, q2, q3, Ev2.step (fun n k => plexusref19_Form.l0_succ n k _ _ _ _ _ _ _) (ev2T (dT (by omega)) (ev2T (by omega) (ev2T (by omega) ?_)))⟩
          rw [gd hlt]
          exact Ev2.bind y4 (ev2T c1 (Ev2.bind l1 (ev2F (by decide) (ev2F c2 q4))))
    · by_cases c2 : (v == 2) = true
      · obtain ⟨r, q1, q2, q3, q4⟩ := J b2
        refine ⟨r, q1, q2, q3, Ev2.step (fun n k => plexusref19_Form.l0_succ n k _ _ _ _ _ _ _) (ev2T (dT (by omega)) (ev2T (by omega) (ev2T (by omega) ?_)))⟩
        rw [gd hlt]
        exact Ev2.bind y4 (ev2F c1 (ev2T c2 (Ev2.bind l2 q4)))
      · obtain ⟨r, q1, q2, q3, q4⟩ := J false
        refine ⟨r, q1, q2, q3, Ev2.step (fun n k => plexusref19_Form.l0_succ n k _ _ _ _ _ _ _) (ev2T (dT (by omega)) (ev2T (by omega) (ev2T (by omega) ?_)))⟩
        rw [gd hlt]
        exact Ev2.bind y4 (ev2F c1 (ev2F c2 q4))
theorem S_w (x : Int) : S (IntKind.wrap IntKind.i64 x) := by rw [wrap_i64']; exact S_wrap _
theorem Inc.zero (m : Nat) : Inc m (0, []) := ⟨⟨by decide, by decide⟩, Nat.zero_le _, fun z hz => absurd hz (by simp)⟩
theorem form_f (v : Int) {m : Nat} (hm : m ≤ 900) {x : Int × List Int} (hx : Inc m x) : ∃ r : (Int × List Int) × List Int × Int, Inc m r.1 ∧ Ev (fun k => plexusref19_Form.m k v x) r := by
  have hl := hx.len
  by_cases h1 : decide (v < 1) = true
  · exact ⟨((0, []), [], 1), Inc.zero m, evX (fun k => plexusref19_Form.m_eq k _ _) (evT h1 (Ev.now _))⟩
  by_cases h2 : decide (v > 2) = true
  · exact ⟨((0, []), [], 1), Inc.zero m, evX (fun k => plexusref19_Form.m_eq k _ _) (evF h1 (evT h2 (Ev.now _)))⟩
  obtain ⟨b, hb⟩ := valid_f (x := x) (by omega)
  cases b with
  | false => exact ⟨((0, []), [], 1), Inc.zero m, evX (fun k => plexusref19_Form.m_eq k _ _) (evF h1 (evF h2 (Ev.bind hb (evT rfl (Ev.now _)))))⟩
  | true =>
    by_cases h3 : decide (x.1 > 7) = true
    · exact ⟨((0, []), [], 2), Inc.zero m, evX (fun k => plexusref19_Form.m_eq k _ _) (evF h1 (evF h2 (Ev.bind hb (evF (by decide) (evT h3 (Ev.now _))))))⟩
    have h3' : x.1 ≤ 7 := Int.not_lt.1 fun q => h3 (dT q)
    have hp : ∃ R : List (List Int), 0 < R.length ∧ R.length ≤ 900000 ∧ (∀ g ∈ R, g.length ≤ 1000) ∧ Ev (fun k => plexusref19_Perms.m k x.1) R := by
      by_cases h0 : 0 ≤ x.1
      · obtain ⟨n, hn⟩ := Int.eq_ofNat_of_zero_le h0
        have hn7 : n ≤ 7 := by omega
        rw [hn]
        have h7 : 7 ^ n ≤ 7 ^ 7 := Nat.pow_le_pow_right (by decide) hn7
        have h77 : (7 : Nat) ^ 7 = 823543 := by decide
        have := arr_len n (idn n) (idn_len n) hn7
        exact ⟨arr n (idn n), List.length_pos_iff.2 (arr_ne n _ (idn_len n)), by omega, fun g hg => by rw [arr_mem n _ (idn_len n) g hg]; omega, perms_f hn7⟩
      · refine ⟨[[]], by simp, by simp, by simp, evX (fun k => plexusref19_Perms.m_eq k _) ?_⟩
        have q : Ev2 (fun n k => plexusref19_Perms.l0 n k x.1 0 []) [[]] := Ev2.step (fun n k => plexusref19_Perms.l0_succ n k _ _ _) (ev2F (dF (by omega)) (Ev2.bind (arranged_f (l := []) (by simp)) (Ev2.now _)))
        exact q.diag
    obtain ⟨R, hR0, hR1, hR2, hR⟩ := hp
    obtain ⟨y, y1, y2, y3, y4⟩ := image_f (by omega) hx.blk (hR2 _ (List.getElem_mem hR0))
    obtain ⟨r, q1, q2, q3, q4⟩ := form_l0 v (by omega) hx.blk hR1 hR2 (R.length - 1) 1 R[0] y.2 rfl (by omega) y2 y3
    refine ⟨r, ⟨by rw [q1]; exact hx.pts, by omega, q3⟩, evX (fun k => plexusref19_Form.m_eq k _ _) (evF h1 (evF h2 (Ev.bind hb (evF (by decide) (evF h3 (Ev.bind hR (evT (by omega) ?_)))))))⟩
    have e : List.getD R (Int.toNat 0) [] = R[0] := gd (i := 0) hR0
    rw [e]
    refine Ev.bind y4 (evT (by omega) ?_)
    rw [y1]
    exact q4.diag
theorem formof_f (v : Int) {m : Nat} (hm : m ≤ 900) {x : Int × List Int} (hx : Inc m x) : ∃ r : (Int × List Int) × Int, Inc m r.1 ∧ Ev (fun k => plexusref21_FormOf.m k v x) r := by
  obtain ⟨r, h1, h2⟩ := form_f v hm hx
  exact ⟨(r.1, r.2.2), h1, evX (fun k => plexusref21_FormOf.m_eq k _ _) (Ev.bind h2 (Ev.now _))⟩
/-! ### equality -/
theorem sameb_l0 {a b : List Int} (h : a.length = b.length) (ha : a.length ≤ 1000) : ∀ (p i : Nat), a.length - i = p → i ≤ a.length → Ev2 (fun n k => plexusref06_SameBlocks.l0 n k a b (i : Int)) (decide (a.drop i = b.drop i))
  | 0, i, hp, hi => by
    rw [List.drop_eq_nil_of_le (by omega), List.drop_eq_nil_of_le (by omega)]
    exact Ev2.step (fun n k => plexusref06_SameBlocks.l0_succ n k _ _ _) (ev2F (dF (by omega)) (Ev2.now _))
  | p + 1, i, hp, hi => by
    have h1 : i < a.length := by omega
    have h2 : i < b.length := by omega
    refine Ev2.step (fun n k => plexusref06_SameBlocks.l0_succ n k _ _ _) (ev2T (dT (by omega)) (ev2T (by omega) (ev2T (by omega) (ev2T (by omega) (ev2T (by omega) ?_)))))
    rw [gd h1, gd h2, List.drop_eq_getElem_cons h1, List.drop_eq_getElem_cons h2]
    by_cases q : a[i] = b[i]
    · refine ev2F (nF q) ?_
      rw [inc64 (by omega), show (decide (a[i] :: List.drop (i + 1) a = b[i] :: List.drop (i + 1) b)) = decide (List.drop (i + 1) a = List.drop (i + 1) b) from decide_eq_decide.2 ⟨fun h => (List.cons.inj h).2, fun h => by rw [q, h]⟩]
      exact sameb_l0 h ha p (i + 1) (by omega) (by omega)
    · refine ev2T (nT q) ?_
      rw [show (decide (a[i] :: List.drop (i + 1) a = b[i] :: List.drop (i + 1) b)) = false from decide_eq_false fun h => q (List.cons.inj h).1]
      exact Ev2.now _
theorem sameb_f {a b : List Int} (ha : a.length ≤ 1000) : Ev (fun k => plexusref06_SameBlocks.m k a b) (decide (a = b)) := by
  by_cases h : a.length = b.length
  · exact evX (fun k => plexusref06_SameBlocks.m_eq k _ _) (evF (nF (by omega)) (sameb_l0 h ha a.length 0 (by omega) (by omega)).diag)
  · rw [show decide (a = b) = false from decide_eq_false fun q => h (by rw [q])]
    exact evX (fun k => plexusref06_SameBlocks.m_eq k _ _) (evT (nT (by omega)) (Ev.now _))
theorem same06_f {a b : Int × List Int} (ha : a.2.length ≤ 1000) : Ev (fun k => plexusref06_Same.m k a b) (decide (a = b)) := by
  obtain ⟨a1, a2⟩ := a
  obtain ⟨b1, b2⟩ := b
  by_cases h : a1 = b1
  · rw [show decide ((a1, a2) = (b1, b2)) = decide (a2 = b2) by simp [h]]
    exact evX (fun k => plexusref06_Same.m_eq k _ _) (evT (bT h) (Ev.bind (sameb_f ha) (Ev.now _)))
  · rw [show decide ((a1, a2) = (b1, b2)) = false by simp [h]]
    exact evX (fun k => plexusref06_Same.m_eq k _ _) (evF (bF h) (Ev.now _))
/-! ### registries -/
abbrev NT : Type := Int × Int × List Int
abbrev RT : Type := Int × Int × List NT
structure Reg (n : Nat) (r : RT) : Prop where
  nx : S r.2.1
  len : r.2.2.length ≤ n
  ent : ∀ e ∈ r.2.2, S e.1 ∧ Inc 10 e.2
theorem Reg.mono {n m : Nat} {r : RT} (h : Reg n r) (q : n ≤ m) : Reg m r := ⟨h.nx, Nat.le_trans h.len q, h.ent⟩
theorem Reg.zero (n : Nat) : Reg n (0, 0, []) := ⟨⟨by decide, by decide⟩, Nat.zero_le _, fun z hz => absurd hz (by simp)⟩
theorem named_l0 {r : RT} (hr : Reg 100 r) (x : Int × List Int) : ∀ (p i : Nat), r.2.2.length - i = p → i ≤ r.2.2.length → ∃ b, Ev2 (fun n k => plexusref21_named.l0 n k r x (i : Int)) b
  | 0, i, hp, hi => ⟨0, Ev2.step (fun n k => plexusref21_named.l0_succ n k _ _ _) (ev2F (dF (by omega)) (Ev2.now _))⟩
  | p + 1, i, hp, hi => by
    have hlt : i < r.2.2.length := by omega
    have hl := hr.len
    have he := (hr.ent _ (List.getElem_mem hlt)).2.len
    have hs := same06_f (a := r.2.2[i].2) (b := x) (by omega)
    by_cases q : r.2.2[i].2 = x
    · refine ⟨r.2.2[i].1, Ev2.step (fun n k => plexusref21_named.l0_succ n k _ _ _) (ev2T (dT (by omega)) (ev2T (by omega) (ev2T (by omega) ?_)))⟩
      rw [gd hlt]
      exact Ev2.bind hs (ev2T (decide_eq_true q) (ev2T (by omega) (ev2T (by omega) (Ev2.now _))))
    · obtain ⟨b, hb⟩ := named_l0 hr x p (i + 1) (by omega) (by omega)
      refine ⟨b, Ev2.step (fun n k => plexusref21_named.l0_succ n k _ _ _) (ev2T (dT (by omega)) (ev2T (by omega) (ev2T (by omega) ?_)))⟩
      rw [gd hlt, inc64 (by omega)]
      exact Ev2.bind hs (ev2F (fun z => q (of_decide_eq_true z)) hb)
theorem named_f {r : RT} (hr : Reg 100 r) (x : Int × List Int) : ∃ b, Ev (fun k => plexusref21_named.m k r x) b := by
  obtain ⟨b, hb⟩ := named_l0 hr x r.2.2.length 0 (by omega) (by omega)
  exact ⟨b, evX (fun k => plexusref21_named.m_eq k _ _) hb.diag⟩
theorem with21_j0 {n : Nat} (hn : n ≤ 100) {r : RT} (hr : Reg n r) {x : NT} (hx : S x.1 ∧ Inc 10 x.2) {i : Nat} (hi : i ≤ r.2.2.length) : ∃ q : RT, q.1 = r.1 ∧ q.2.1 = r.2.1 ∧ Reg (n + 1) q ∧ Ev (fun k => plexusref21_with.j0 k r x (i : Int)) q := by
  have hl := hr.len
  refine ⟨(r.1, r.2.1, (r.2.2.take i ++ [x]) ++ r.2.2.drop i), rfl, rfl, ⟨hr.nx, by simp; omega, fun e he => ?_⟩, evX (fun k => plexusref21_with.j0_eq k _ _ _) ?_⟩
  · rcases List.mem_append.1 he with q | q
    · rcases List.mem_append.1 q with q | q
      · exact hr.ent e (List.mem_of_mem_take q)
      · rw [List.mem_singleton.1 q]; exact hx
    · exact hr.ent e (List.mem_of_mem_drop q)
  · rw [Int.toNat_natCast]
    exact evT (by omega) (evT (by omega) (evT (by simp; omega) (evT (by simp; omega) (evT (by omega) (evT (by omega) (evT (by simp; omega) (Ev.now _)))))))
theorem with21_l0 {n : Nat} (hn : n ≤ 100) {r : RT} (hr : Reg n r) {x : NT} (hx : S x.1 ∧ Inc 10 x.2) : ∀ (p i : Nat), r.2.2.length - i = p → i ≤ r.2.2.length → ∃ q : RT, q.1 = r.1 ∧ q.2.1 = r.2.1 ∧ Reg (n + 1) q ∧ Ev2 (fun n k => plexusref21_with.l0 n k r x (i : Int)) q
  | 0, i, hp, hi => by
    obtain ⟨q, q1, q2, q3, q4⟩ := with21_j0 hn hr hx hi
    exact ⟨q, q1, q2, q3, Ev2.step (fun n k => plexusref21_with.l0_succ n k _ _ _) (ev2F (dF (by omega)) (Ev2.of q4))⟩
  | p + 1, i, hp, hi => by
    have hl := hr.len
    by_cases c : decide ((List.getD r.2.2 (Int.toNat (i : Int)) (Int.ofNat 0, Int.ofNat 0, [])).1 < x.1) = true
    · obtain ⟨q, q1, q2, q3, q4⟩ := with21_l0 hn hr hx p (i + 1) (by omega) (by omega)
      refine ⟨q, q1, q2, q3, Ev2.step (fun n k => plexusref21_with.l0_succ n k _ _ _) (ev2T (dT (by omega)) (ev2T (by omega) (ev2T (by omega) (ev2T c ?_))))⟩
      rw [inc64 (by omega)]; exact q4
    · obtain ⟨q, q1, q2, q3, q4⟩ := with21_j0 hn hr hx hi
      exact ⟨q, q1, q2, q3, Ev2.step (fun n k => plexusref21_with.l0_succ n k _ _ _) (ev2T (dT (by omega)) (ev2T (by omega) (ev2T (by omega) (ev2F c (Ev2.of q4)))))⟩
theorem with21_f {n : Nat} (hn : n ≤ 100) {r : RT} (hr : Reg n r) {x : NT} (hx : S x.1 ∧ Inc 10 x.2) : ∃ q : RT, q.1 = r.1 ∧ q.2.1 = r.2.1 ∧ Reg (n + 1) q ∧ Ev (fun k => plexusref21_with.m k r x) q := by
  obtain ⟨q, q1, q2, q3, q4⟩ := with21_l0 hn hr hx r.2.2.length 0 (by omega) (by omega)
  exact ⟨q, q1, q2, q3, evX (fun k => plexusref21_with.m_eq k _ _) q4.diag⟩
theorem putin_f {n : Nat} (hn : n ≤ 99) {r : RT} (hr : Reg n r) {x : Int × List Int} (hx : Inc 10 x) : ∃ g : RT × Int × List (Int × Int) × Int, Reg (n + 1) g.1 ∧ Ev (fun k => plexusref21_PutIn.m k r x) g := by
  obtain ⟨f, f1, f2⟩ := formof_f r.1 (by omega) hx
  by_cases h1 : (f.2 != 0) = true
  · exact ⟨((0, 0, []), 0, [], f.2), Reg.zero _, evX (fun k => plexusref21_PutIn.m_eq k _ _) (Ev.bind f2 (evT h1 (Ev.now _)))⟩
  obtain ⟨b, hb⟩ := named_f (hr.mono (by omega)) f.1
  by_cases h2 : decide (b > 0) = true
  · exact ⟨(r, b, [], 0), hr.mono (by omega), evX (fun k => plexusref21_PutIn.m_eq k _ _) (Ev.bind f2 (evF h1 (Ev.bind hb (evT h2 (Ev.now _)))))⟩
  by_cases h3 : decide ((r.2.2.length : Int) ≥ 100) = true
  · exact ⟨((0, 0, []), 0, [], 2), Reg.zero _, evX (fun k => plexusref21_PutIn.m_eq k _ _) (Ev.bind f2 (evF h1 (Ev.bind hb (evF h2 (evT h3 (Ev.now _))))))⟩
  by_cases h4 : decide (r.2.1 ≥ 1000000) = true
  · exact ⟨((0, 0, []), 0, [], 2), Reg.zero _, evX (fun k => plexusref21_PutIn.m_eq k _ _) (Ev.bind f2 (evF h1 (Ev.bind hb (evF h2 (evF h3 (evT h4 (Ev.now _)))))))⟩
  obtain ⟨q, q1, q2, q3, q4⟩ := with21_f (by omega) hr (x := (r.2.1, f.1)) ⟨hr.nx, f1⟩
  refine ⟨((q.1, IntKind.wrap IntKind.i64 (q.2.1 + 1), q.2.2), r.2.1, [], 0), ⟨?_, q3.len, q3.ent⟩, evX (fun k => plexusref21_PutIn.m_eq k _ _) (Ev.bind f2 (evF h1 (Ev.bind hb (evF h2 (evF h3 (evF h4 (Ev.bind q4 (Ev.now _))))))))⟩
  rw [wrap_i64']; exact S_wrap _
theorem made21_l0 {a : Int × Int × List (List Int)} (hb : ∀ l ∈ a.2.2, ∀ x ∈ l, BY x) : ∀ (p i : Nat) (r : RT), 6 - i = p → i ≤ 6 → Reg i r → ∃ q, Reg 6 q ∧ Ev2 (fun n k => plexusref21_Made.l0 n k a (i : Int) r.1 r.2.1 r.2.2) q
  | 0, i, r, hp, hi, hr => by
    have e6 : i = 6 := by omega
    refine ⟨r, hr.mono (by omega), Ev2.step (fun n k => plexusref21_Made.l0_succ n k _ _ _ _ _) ?_⟩
    by_cases c : decide ((i : Int) < (a.2.2.length : Int)) = true
    · exact ev2T c (ev2F (dF (by omega)) (Ev2.now _))
    · exact ev2F c (Ev2.now _)
  | p + 1, i, r, hp, hi, hr => by
    by_cases c : i < a.2.2.length
    · obtain ⟨v, x, hv1, hv5, hm, hx⟩ := pick_f (hb _ (List.getElem_mem c))
      have hI : Inc 10 x := ⟨by rw [hm.pts]; unfold S; omega, hm.len, fun z hz => by
        have h := hm.pb z hz
        have h2 : 2 ^ v ≤ 2 ^ 5 := Nat.pow_le_pow_right (by decide) hv5
        have h4 : ((2 ^ v : Nat) : Int) = 2 ^ v := by simp
        have h5 := h.2
        rw [← h4] at h5
        exact ⟨h.1, by omega⟩⟩
      obtain ⟨g, g1, g2⟩ := putin_f (by omega) hr hI
      by_cases d : (Go.Vx.divF BinOp.rem IntKind.u8 (Go.Vx.divF BinOp.quo IntKind.u8 a.2.1 8) 4 == 1) = true
      · obtain ⟨q, q1, q2⟩ := made21_l0 hb p (i + 1) (g.1.1, IntKind.wrap IntKind.i64 (g.1.2.1 + 1), g.1.2.2) (by omega) (by omega) ⟨S_w _, g1.len, g1.ent⟩
        refine ⟨q, q1, Ev2.step (fun n k => plexusref21_Made.l0_succ n k _ _ _ _ _) (ev2T (dT (by omega)) (ev2T (dT (by omega)) (ev2T (by omega) (ev2T (by omega) ?_))))⟩
        rw [gd c, inc64 (by omega)]
        exact Ev2.bind hx (Ev2.bind g2 (ev2T d q2))
      · obtain ⟨q, q1, q2⟩ := made21_l0 hb p (i + 1) g.1 (by omega) (by omega) g1
        refine ⟨q, q1, Ev2.step (fun n k => plexusref21_Made.l0_succ n k _ _ _ _ _) (ev2T (dT (by omega)) (ev2T (dT (by omega)) (ev2T (by omega) (ev2T (by omega) ?_))))⟩
        rw [gd c, inc64 (by omega)]
        exact Ev2.bind hx (Ev2.bind g2 (ev2F d q2))
    · exact ⟨r, hr.mono (by omega), Ev2.step (fun n k => plexusref21_Made.l0_succ n k _ _ _ _ _) (ev2F (dF (by omega)) (Ev2.now _))⟩
theorem made21_f {a : Int × Int × List (List Int)} (hb : ∀ l ∈ a.2.2, ∀ x ∈ l, BY x) : ∃ q, Reg 6 q ∧ Ev (fun k => plexusref21_Made.m k a) q := by
  obtain ⟨q, q1, q2⟩ := made21_l0 hb 6 0 (IntKind.wrap IntKind.i64 (1 + IntKind.wrap IntKind.i64 (Go.Vx.divF BinOp.rem IntKind.u8 a.1 2)), IntKind.wrap IntKind.i64 (1 + IntKind.wrap IntKind.i64 (Go.Vx.divF BinOp.rem IntKind.u8 a.2.1 5)), []) rfl (by omega) ⟨S_w _, by simp, by simp⟩
  exact ⟨q, q1, evX (fun k => plexusref21_Made.m_eq k _) q2.diag⟩

end Go.Proofs.YtjnpcpnjcieheaaGreatQ
