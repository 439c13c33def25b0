/- Chains of editions: digests, tags, which are signed; chains that are made. -/
import Derived.Test.YtjnpcpnjcieheaaGreatQH
import Derived.Test.YtjnpcpnjcieheaaGreatQRe
import Derived.Test.YtjnpcpnjcieheaaGreatX48C
namespace Go.Proofs.YtjnpcpnjcieheaaGreatQ
set_option linter.unusedVariables false
set_option linter.unusedSimpArgs false
open Go Go.RowKit Go.Proofs.YtjnpcpnjcieheaaGreat.P47 Go.Proofs.YtjnpcpnjcieheaaGreat.V48 Go.Proofs.YtjnpcpnjcieheaaGreatW.PrintWords Go.Proofs.YtjnpcpnjcieheaaGreatW.PrintLast Go.Proofs.YtjnpcpnjcieheaaGreatW.PrintMore

theorem rt_r {l : List Int} (hm : l.length ≤ 65536) (hl : ∀ x ∈ l, U x) : Ev (fun k => rRoot.h k l) (rt l) := by
  rw [← rRoot.hid]
  unfold rt
  by_cases h : l = []
  · rw [if_pos h, h]
    obtain ⟨v, h1, h2⟩ := root_both (l := []) (by simp) (by simp)
    obtain ⟨K, h1⟩ := h1
    obtain ⟨L, h3⟩ := root0
    have : v = wd [] := Option.some.inj ((h1 (K + L) (by omega)).symm.trans (h3 (K + L) (by omega)))
    rw [← this]; exact h2
  · rw [if_neg h]; exact rroot_f _ l rfl (List.length_pos_iff.2 h) hm hl
abbrev ED : Type := Int × Int × Int × Int
def ed (c : List ED) (i : Nat) : ED := c.getD i (0, 0, 0, 0)
theorem ed_get {c : List ED} {i : Nat} (h : i < c.length) : ed c i = c[i] := by unfold ed; rw [List.getD_eq_getElem?_getD, List.getElem?_eq_getElem h]; rfl
def dg (e : ED) : Int := wd [e.1, wrap64 e.2.1, wrap64 e.2.2.1, wrap64 e.2.2.2]
def tg (key no p r : Int) : Int := YtjnpcpnjcieheaaGreat.P47.seal_stepv key (wd [no, wrap64 p, wrap64 r])
theorem tg_U {key : Int} (hk : U key) (no p r : Int) : U (tg key no p r) := stepv_U hk (wd_U _)
theorem tg_root {key : Int} (hk : U key) (no p : Int) {r s : Int} (hr : U r) (hs : U s) : tg key no p r = tg key no p s ↔ r = s := by
  unfold tg
  rw [stepv_right hk (wd_U _) (wd_U _), wd_3 (.inr (.inr ⟨rfl, rfl⟩)), wrap_w64 hr, wrap_w64 hs]; simp
def pv (c : List ED) (i : Nat) : Int := if i = 0 then 0 else dg (ed c (i - 1))
theorem pv_U (c : List ED) (i : Nat) : U (pv c i) := by unfold pv; split; exact U0; exact wd_U _
def sgn (key : Int) (i : Nat) (p r : Int) : ED := (((i + 1 : Nat) : Int), p, r, tg key ((i + 1 : Nat) : Int) p r)
def okAt (key : Int) (c : List ED) (i : Nat) : Prop := ed c i = sgn key i (pv c i) (ed c i).2.2.1
def Sig (key : Int) (c : List ED) : Prop := ∀ i, i < c.length → okAt key c i
theorem pv_take {c : List ED} {i : Nat} (h : i ≤ c.length) : pv (c.take i) i = pv c i := by
  unfold pv
  by_cases q : i = 0
  · rw [if_pos q, if_pos q]
  · rw [if_neg q, if_neg q]
    have e : ed (c.take i) (i - 1) = ed c (i - 1) := by unfold ed; rw [List.getD_eq_getElem?_getD, List.getD_eq_getElem?_getD, List.getElem?_take, if_pos (by omega)]
    rw [e]
theorem digest_e (e : ED) : Ev (fun k => edition_Digest.m k e) (dg e) := by
  suffices z : Ev2 (fun n k => edition_Digest.l0 n k e 0 [e.1]) (dg e) from evX (fun k => edition_Digest.m_eq k _) z.diag
  refine Ev2.step (fun n k => edition_Digest.l0_succ n k _ _ _) (ev2T (dT (by simp)) (ev2T (by decide) (ev2T (by simp) (ev2T (by simp) ?_))))
  refine Ev2.step (fun n k => edition_Digest.l0_succ n k _ 1 _) (ev2T (dT (by simp)) (ev2T (by decide) (ev2T (by simp) (ev2T (by simp) ?_))))
  refine Ev2.step (fun n k => edition_Digest.l0_succ n k _ 2 _) (ev2T (dT (by simp)) (ev2T (by decide) (ev2T (by simp) (ev2T (by simp) ?_))))
  refine Ev2.step (fun n k => edition_Digest.l0_succ n k _ 3 _) (ev2F (dF (by simp)) (Ev2.bind (a := dg e) ⟨0, fun k _ => ?_⟩ (Ev2.now _)))
  rw [words_h]
  simp only [wrap_i64']
  rfl
theorem rdigest_e (e : ED) : Ev (fun k => plexusref48_Digest.m k e) (dg e) := by
  refine evX (fun k => plexusref48_Digest.m_eq k _) ?_
  simp only [wrap_i64']
  exact Ev.bind (rwords_f _ (by simp)) (Ev.now _)
theorem tag_e {key : Int} (hk : U key) (l : List Int) : Ev (fun k => seal_Tag.m k key l) (YtjnpcpnjcieheaaGreat.P47.seal_stepv key (wd l)) := by
  refine evX (fun k => seal_Tag.m_eq k _ _) (Ev.bind (a := wd l) ⟨0, fun k _ => words_h _⟩ (Ev.bind (a := YtjnpcpnjcieheaaGreat.P47.seal_stepv key (wd l)) ?_ (Ev.now _)))
  exact evX (fun k => seal_Step.m_eq k _ _) (Ev.bind ⟨0, fun k _ => sstep_m k hk (wd_U l)⟩ (Ev.now _))
theorem rtag_e {key : Int} (hk : U key) (e : ED) : Ev (fun k => plexusref48_Tag.m k key e) (tg key e.1 e.2.1 e.2.2.1) := by
  refine evX (fun k => plexusref48_Tag.m_eq k _ _) ?_
  simp only [wrap_i64']
  refine Ev.bind (a := tg key e.1 e.2.1 e.2.2.1) (evX (fun k => plexusref03_Tag.m_eq k _ _) (Ev.bind (rwords_f _ (by simp)) (Ev.bind ⟨0, fun k _ => rstep_m k hk (wd_U _)⟩ (Ev.now _)))) (Ev.now _)
theorem signed_j0 {key : Int} (hk : U key) {b : List ED} (hb : b.length ≤ 100) (p r : Int) : Ev (fun k => edition_signed.j0 k key b r p) (sgn key b.length p r) := by
  refine evX (fun k => edition_signed.j0_eq k _ _ _ _) ?_
  rw [inc64 (by omega)]
  suffices z : Ev2 (fun n k => edition_signed.l0 n k key b r p 0 [((b.length + 1 : Nat) : Int)]) (sgn key b.length p r) from z.diag
  refine Ev2.step (fun n k => edition_signed.l0_succ n k _ _ _ _ _ _) (ev2T (dT (by simp)) (ev2T (by decide) (ev2T (by simp) (ev2T (by simp) ?_))))
  refine Ev2.step (fun n k => edition_signed.l0_succ n k _ _ _ _ 1 _) (ev2T (dT (by simp)) (ev2T (by decide) (ev2T (by simp) (ev2T (by simp) ?_))))
  refine Ev2.step (fun n k => edition_signed.l0_succ n k _ _ _ _ 2 _) (ev2F (dF (by simp)) ?_)
  rw [inc64 (by omega)]
  simp only [wrap_i64']
  exact Ev2.bind (tag_e hk _) (Ev2.now _)
theorem signed_e {key : Int} (hk : U key) {b : List ED} (hb : b.length ≤ 100) (r : Int) : Ev (fun k => edition_signed.m k key b r) (sgn key b.length (pv b b.length) r) := by
  refine evX (fun k => edition_signed.m_eq k _ _ _) ?_
  unfold pv
  by_cases h : b.length = 0
  · rw [if_pos h]
    exact evF (dF (by omega)) (signed_j0 hk hb _ _)
  · rw [if_neg h]
    have e : IntKind.wrap IntKind.i64 ((b.length : Int) - 1) = ((b.length - 1 : Nat) : Int) := by rw [wrap_i64', w64 (by omega) (by omega)]; omega
    refine evT (dT (by omega)) ?_
    rw [e]
    refine evT (by omega) (evT (by omega) ?_)
    rw [gd (by omega), ← ed_get (by omega)]
    exact Ev.bind (digest_e _) (signed_j0 hk hb _ _)
theorem eq4 (a b : ED) : ((a.1 == b.1 && (a.2.1 == b.2.1 && (a.2.2.1 == b.2.2.1 && a.2.2.2 == b.2.2.2))) = true) ↔ a = b := by
  simp only [Bool.and_eq_true, beq_iff_eq]
  constructor
  · rintro ⟨h1, h2, h3, h4⟩
    exact Prod.ext h1 (Prod.ext h2 (Prod.ext h3 h4))
  · rintro rfl
    exact ⟨rfl, rfl, rfl, rfl⟩
open Classical in
theorem check_l0 {key : Int} (hk : U key) {c : List ED} (hc : c.length ≤ 60) : ∀ (p i : Nat), c.length - i = p → i ≤ c.length → Ev2 (fun n k => edition_Check.l0 n k key c (i : Int)) (if ∀ j, i ≤ j → j < c.length → okAt key c j then 0 else 480)
  | 0, i, hp, hi => by
    rw [if_pos (fun j h1 h2 => by omega)]
    exact Ev2.step (fun n k => edition_Check.l0_succ n k _ _ _) (ev2F (dF (by omega)) (Ev2.now _))
  | p + 1, i, hp, hi => by
    have hlt : i < c.length := by omega
    refine Ev2.step (fun n k => edition_Check.l0_succ n k _ _ _) (ev2T (dT (by omega)) (ev2T (by omega) (ev2T (by omega) (ev2T (by omega) (ev2T (by omega) ?_)))))
    have hs := signed_e hk (b := c.take i) (by simp; omega) (ed c i).2.2.1
    rw [List.length_take, Nat.min_eq_left (by omega), pv_take (by omega)] at hs
    rw [gd hlt, ← ed_get hlt, Int.toNat_natCast]
    refine Ev2.bind hs ?_
    by_cases q : okAt key c i
    · refine ev2F (notF ((eq4 _ _).2 q)) ?_
      rw [inc64 (by omega)]
      have := check_l0 hk hc p (i + 1) (by omega) (by omega)
      have e : (∀ j, i + 1 ≤ j → j < c.length → okAt key c j) ↔ (∀ j, i ≤ j → j < c.length → okAt key c j) := ⟨fun h j h1 h2 => if z : j = i then z ▸ q else h j (by omega) h2, fun h j h1 h2 => h j (by omega) h2⟩
      simp only [e] at this
      exact this
    · rw [if_neg (fun h => q (h i (Nat.le_refl i) hlt))]
      exact ev2T (notT (Bool.eq_false_iff.2 fun z => q ((eq4 _ _).1 z))) (Ev2.now _)
open Classical in
theorem check_e {key : Int} (hk : U key) {c : List ED} (hc : c.length ≤ 60) : Ev (fun k => edition_Check.m k key c) (if Sig key c then 0 else 480) := by
  refine evX (fun k => edition_Check.m_eq k _ _) (evF (dF (by omega)) ?_)
  have := (check_l0 hk hc c.length 0 (by omega) (by omega)).diag
  have e : (∀ j, 0 ≤ j → j < c.length → okAt key c j) ↔ Sig key c := ⟨fun h j hj => h j (Nat.zero_le _) hj, fun h j _ hj => h j hj⟩
  simp only [e] at this
  exact this
theorem ok_iff {key : Int} {c : List ED} {i : Nat} : okAt key c i ↔ (ed c i).1 = ((i + 1 : Nat) : Int) ∧ (ed c i).2.1 = pv c i ∧ (ed c i).2.2.2 = tg key (ed c i).1 (ed c i).2.1 (ed c i).2.2.1 := by
  unfold okAt sgn
  constructor
  · intro h
    have h1 : (ed c i).1 = ((i + 1 : Nat) : Int) := congrArg (fun x : ED => x.1) h
    have h2 : (ed c i).2.1 = pv c i := congrArg (fun x : ED => x.2.1) h
    have h3 : (ed c i).2.2.2 = tg key ((i + 1 : Nat) : Int) (pv c i) (ed c i).2.2.1 := congrArg (fun x : ED => x.2.2.2) h
    exact ⟨h1, h2, by rw [h1, h2]; exact h3⟩
  · rintro ⟨h1, h2, h3⟩
    rw [h1, h2] at h3
    exact Prod.ext h1 (Prod.ext h2 (Prod.ext rfl h3))
open Classical in
theorem rcheck_l0 {key : Int} (hk : U key) {c : List ED} (hc : c.length ≤ 60) : ∀ (p i : Nat), c.length - i = p → i ≤ c.length → Ev2 (fun n k => plexusref48_Check.l0 n k key c (i : Int)) (if ∀ j, i ≤ j → j < c.length → okAt key c j then 0 else 480)
  | 0, i, hp, hi => by
    rw [if_pos (fun j h1 h2 => by omega)]
    exact Ev2.step (fun n k => plexusref48_Check.l0_succ n k _ _ _) (ev2F (dF (by omega)) (Ev2.now _))
  | p + 1, i, hp, hi => by
    have hlt : i < c.length := by omega
    have J : Ev2 (fun n k => plexusref48_Check.j0 k n key c (i : Int) (pv c i)) (if ∀ j, i ≤ j → j < c.length → okAt key c j then 0 else 480) := by
      refine Ev2.congr (fun n k => plexusref48_Check.j0_eq k n _ _ _ _) (ev2T (by omega) (ev2T (by omega) ?_))
      rw [gd hlt, ← ed_get hlt, inc64 (by omega)]
      by_cases q1 : (ed c i).1 = ((i + 1 : Nat) : Int)
      · refine ev2F (nF q1) (ev2T (by omega) (ev2T (by omega) ?_))
        by_cases q2 : (ed c i).2.1 = pv c i
        · refine ev2F (nF q2) (ev2T (by omega) (ev2T (by omega) (ev2T (by omega) (ev2T (by omega) (Ev2.bind (rtag_e hk _) ?_)))))
          by_cases q3 : (ed c i).2.2.2 = tg key (ed c i).1 (ed c i).2.1 (ed c i).2.2.1
          · have q : okAt key c i := ok_iff.2 ⟨q1, q2, q3⟩
            refine ev2F (nF q3) ?_
            have := rcheck_l0 hk hc p (i + 1) (by omega) (by omega)
            have e : (∀ j, i + 1 ≤ j → j < c.length → okAt key c j) ↔ (∀ j, i ≤ j → j < c.length → okAt key c j) := ⟨fun h j h1 h2 => if z : j = i then z ▸ q else h j (by omega) h2, fun h j h1 h2 => h j (by omega) h2⟩
            simp only [e] at this
            exact this
          · rw [if_neg (fun h => q3 (ok_iff.1 (h i (Nat.le_refl i) hlt)).2.2)]
            exact ev2T (nT q3) (Ev2.now _)
        · rw [if_neg (fun h => q2 (ok_iff.1 (h i (Nat.le_refl i) hlt)).2.1)]
          exact ev2T (nT q2) (Ev2.now _)
      · rw [if_neg (fun h => q1 (ok_iff.1 (h i (Nat.le_refl i) hlt)).1)]
        exact ev2T (nT q1) (Ev2.now _)
    refine Ev2.step (fun n k => plexusref48_Check.l0_succ n k _ _ _) (ev2T (dT (by omega)) ?_)
    by_cases h : i = 0
    · have e : pv c i = 0 := if_pos h
      rw [e] at J
      exact ev2F (dF (by omega)) J
    · have e : IntKind.wrap IntKind.i64 ((i : Int) - 1) = ((i - 1 : Nat) : Int) := by rw [wrap_i64', w64 (by omega) (by omega)]; omega
      have e2 : pv c i = dg (ed c (i - 1)) := if_neg h
      refine ev2T (dT (by omega)) ?_
      rw [e, gd (i := i - 1) (by omega), ← ed_get (i := i - 1) (by omega)]
      rw [e2] at J
      exact ev2T (by omega) (ev2T (by omega) (Ev2.bind (rdigest_e _) J))
open Classical in
theorem rcheck_e {key : Int} (hk : U key) {c : List ED} (hc : c.length ≤ 60) : Ev (fun k => plexusref48_Check.m k key c) (if Sig key c then 0 else 480) := by
  refine evX (fun k => plexusref48_Check.m_eq k _ _) (evF (dF (by omega)) ?_)
  have := (rcheck_l0 hk hc c.length 0 (by omega) (by omega)).diag
  have e : (∀ j, 0 ≤ j → j < c.length → okAt key c j) ↔ Sig key c := ⟨fun h j hj => h j (Nat.zero_le _) hj, fun h j _ hj => h j hj⟩
  simp only [e] at this
  exact this
/-! ### right registries, as the reference says -/
theorem right_l1 {r : RT} (hr : Reg 100 r) {i : Nat} (hi : i < r.2.2.length) {v : Int} (hv : Ev2 (fun n k => plexusref21_Right.l0 n k r ((i + 1 : Nat) : Int)) v) : ∀ (p j : Nat), i - j = p → j ≤ i → ∃ u, Ev3 (fun m n k => plexusref21_Right.l1 m k n r (i : Int) (j : Int)) u
  | 0, j, hp, hj => by
    have hl := hr.len
    refine ⟨v, Ev3.step (fun m n k => plexusref21_Right.l1_succ m k n _ _ _) (ev3F (dF (by omega)) ?_)⟩
    rw [inc64 (by omega)]
    exact Ev3.of hv
  | p + 1, j, hp, hj => by
    have hl := hr.len
    have hlt : j < r.2.2.length := by omega
    have he := (hr.ent _ (List.getElem_mem hi)).2.len
    have hs := same06_f (a := r.2.2[i].2) (b := r.2.2[j].2) (by omega)
    by_cases q : r.2.2[i].2 = r.2.2[j].2
    · refine ⟨210, Ev3.step (fun m n k => plexusref21_Right.l1_succ m k n _ _ _) (ev3T (dT (by omega)) (ev3T (by omega) (ev3T (by omega) (ev3T (by omega) (ev3T (by omega) ?_)))))⟩
      rw [gd hi, gd hlt]
      exact Ev3.bind hs (ev3T (decide_eq_true q) (Ev3.now _))
    · obtain ⟨u, hu⟩ := right_l1 hr hi hv p (j + 1) (by omega) (by omega)
      refine ⟨u, Ev3.step (fun m n k => plexusref21_Right.l1_succ m k n _ _ _) (ev3T (dT (by omega)) (ev3T (by omega) (ev3T (by omega) (ev3T (by omega) (ev3T (by omega) ?_)))))⟩
      rw [gd hi, gd hlt, inc64 (by omega)]
      exact Ev3.bind hs (ev3F (fun z => q (of_decide_eq_true z)) hu)
theorem right_l0 {r : RT} (hr : Reg 100 r) : ∀ (p i : Nat), r.2.2.length - i = p → i ≤ r.2.2.length → ∃ u, Ev2 (fun n k => plexusref21_Right.l0 n k r (i : Int)) u
  | 0, i, hp, hi => ⟨0, Ev2.step (fun n k => plexusref21_Right.l0_succ n k _ _) (ev2F (dF (by omega)) (Ev2.now _))⟩
  | p + 1, i, hp, hi => by
    have hl := hr.len
    have hlt : i < r.2.2.length := by omega
    have he := hr.ent _ (List.getElem_mem hlt)
    obtain ⟨f, f1, f2⟩ := formof_f r.1 (by omega) he.2
    have hs := same06_f (a := f.1) (b := r.2.2[i].2) (by have := f1.len; omega)
    obtain ⟨v, hv⟩ := right_l0 hr p (i + 1) (by omega) (by omega)
    obtain ⟨u, hu⟩ := right_l1 hr hlt hv i 0 (by omega) (by omega)
    have hj : Ev2 (fun n k => plexusref21_Right.j0 k n r (i : Int)) u := Ev2.congr (fun n k => plexusref21_Right.j0_eq k n _ _) hu.diag
    have J : ∃ w, Ev2 (fun n k => if (f.2 != 0) = true then some 210 else if 0 ≤ (i : Int) then if (i : Int) < (r.2.2.length : Int) then (plexusref06_Same.m k f.1 r.2.2[i].2).bind fun b => if (!b) = true then some 210 else plexusref21_Right.j0 k n r (i : Int) else none else none) w := by
      by_cases q1 : (f.2 != 0) = true
      · exact ⟨210, ev2T q1 (Ev2.now _)⟩
      by_cases q2 : f.1 = r.2.2[i].2
      · exact ⟨u, ev2F q1 (ev2T (by omega) (ev2T (by omega) (Ev2.bind hs (ev2F (notF (decide_eq_true q2)) hj))))⟩
      · exact ⟨210, ev2F q1 (ev2T (by omega) (ev2T (by omega) (Ev2.bind hs (ev2T (notT (decide_eq_false q2)) (Ev2.now _)))))⟩
    obtain ⟨w, hw⟩ := J
    have go : ∀ g : Nat → Nat → Option Int, (∀ n k, plexusref21_Right.l0 (n + 1) k r (i : Int) = (plexusref21_FormOf.m k r.1 r.2.2[i].2).bind fun _ => g n k) → True := fun _ _ => trivial
    by_cases c1 : decide (r.2.2[i].1 < 1) = true
    · refine ⟨210, Ev2.step (fun n k => plexusref21_Right.l0_succ n k _ _) (ev2T (dT (by omega)) (ev2T (by omega) (ev2T (by omega) ?_)))⟩
      rw [gd hlt]
      exact Ev2.bind f2 (ev2T (by omega) (ev2T (by omega) (ev2T c1 (Ev2.now _))))
    by_cases c2 : decide (r.2.2[i].1 ≥ r.2.1) = true
    · refine ⟨210, Ev2.step (fun n k => plexusref21_Right.l0_succ n k _ _) (ev2T (dT (by omega)) (ev2T (by omega) (ev2T (by omega) ?_)))⟩
      rw [gd hlt]
      exact Ev2.bind f2 (ev2T (by omega) (ev2T (by omega) (ev2F c1 (ev2T (by omega) (ev2T (by omega) (ev2T c2 (Ev2.now _)))))))
    by_cases c3 : i = 0
    · refine ⟨w, Ev2.step (fun n k => plexusref21_Right.l0_succ n k _ _) (ev2T (dT (by omega)) (ev2T (by omega) (ev2T (by omega) ?_)))⟩
      rw [gd hlt]
      exact Ev2.bind f2 (ev2T (by omega) (ev2T (by omega) (ev2F c1 (ev2T (by omega) (ev2T (by omega) (ev2F c2 (ev2F (dF (by omega)) hw)))))))
    have e : IntKind.wrap IntKind.i64 ((i : Int) - 1) = ((i - 1 : Nat) : Int) := by rw [wrap_i64', w64 (by omega) (by omega)]; omega
    by_cases c4 : decide ((r.2.2[i - 1]'(by omega)).1 ≥ r.2.2[i].1) = true
    · refine ⟨210, Ev2.step (fun n k => plexusref21_Right.l0_succ n k _ _) (ev2T (dT (by omega)) (ev2T (by omega) (ev2T (by omega) ?_)))⟩
      rw [gd hlt, e, gd (i := i - 1) (by omega)]
      exact Ev2.bind f2 (ev2T (by omega) (ev2T (by omega) (ev2F c1 (ev2T (by omega) (ev2T (by omega) (ev2F c2 (ev2T (dT (by omega)) (ev2T (by omega) (ev2T (by omega) (ev2T (by omega) (ev2T (by omega) (ev2T c4 (Ev2.now _)))))))))))))
    · refine ⟨w, Ev2.step (fun n k => plexusref21_Right.l0_succ n k _ _) (ev2T (dT (by omega)) (ev2T (by omega) (ev2T (by omega) ?_)))⟩
      rw [gd hlt, e, gd (i := i - 1) (by omega)]
      exact Ev2.bind f2 (ev2T (by omega) (ev2T (by omega) (ev2F c1 (ev2T (by omega) (ev2T (by omega) (ev2F c2 (ev2T (dT (by omega)) (ev2T (by omega) (ev2T (by omega) (ev2T (by omega) (ev2T (by omega) (ev2F c4 hw))))))))))))
theorem right_f {r : RT} (hr : Reg 100 r) : ∃ u, Ev (fun k => plexusref21_Right.m k r) u := by
  by_cases c1 : decide (r.1 < 1) = true
  · exact ⟨210, evX (fun k => plexusref21_Right.m_eq k _) (evT c1 (Ev.now _))⟩
  by_cases c2 : decide (r.1 > 2) = true
  · exact ⟨210, evX (fun k => plexusref21_Right.m_eq k _) (evF c1 (evT c2 (Ev.now _)))⟩
  by_cases c3 : decide (r.2.1 < 1) = true
  · exact ⟨210, evX (fun k => plexusref21_Right.m_eq k _) (evF c1 (evF c2 (evT c3 (Ev.now _))))⟩
  by_cases c4 : decide (r.2.1 > 1000000) = true
  · exact ⟨210, evX (fun k => plexusref21_Right.m_eq k _) (evF c1 (evF c2 (evF c3 (evT c4 (Ev.now _)))))⟩
  obtain ⟨u, hu⟩ := right_l0 hr r.2.2.length 0 (by omega) (by omega)
  have hl := hr.len
  exact ⟨u, evX (fun k => plexusref21_Right.m_eq k _) (evF c1 (evF c2 (evF c3 (evF c4 (evF (dF (by omega)) hu.diag)))))⟩
/-! ### roots of the reference -/
theorem rleaf_l0 (n : NT) (hl : n.2.2.length ≤ 1000) : ∀ (p i : Nat), n.2.2.length - i = p → i ≤ n.2.2.length → Ev2 (fun m k => plexusref48_Leaf.l0 m k n (i : Int) (n.1 :: n.2.1 :: (n.2.2.take i).map wrap64)) (lf n)
  | 0, i, hp, hi => by
    obtain rfl : i = n.2.2.length := by omega
    rw [List.take_length]
    exact Ev2.step (fun m k => plexusref48_Leaf.l0_succ m k _ _ _) (ev2F (dF (by omega)) (Ev2.bind (rwords_f _ (by simp; omega)) (Ev2.now _)))
  | p + 1, i, hp, hi => by
    have hlt : i < n.2.2.length := by omega
    refine Ev2.step (fun m k => plexusref48_Leaf.l0_succ m k _ _ _) (ev2T (dT (by omega)) (ev2T (by omega) (ev2T (by omega) (ev2T (by simp; omega) ?_))))
    have := rleaf_l0 n hl p (i + 1) (by omega) (by omega)
    rw [inc64 (by omega), gd hlt, wrap_i64']
    rw [List.take_succ_eq_append_getElem hlt, List.map_append] at this
    exact this
theorem rleaf_e (n : NT) (hl : n.2.2.length ≤ 1000) : Ev (fun k => plexusref48_Leaf.m k n) (lf n) :=
  evX (fun k => plexusref48_Leaf.m_eq k _) (rleaf_l0 n hl n.2.2.length 0 (by omega) (by omega)).diag
theorem rleaves_l0 {r : RT} {z : Nat} (hz : z ≤ 1000) (hr : Reg z r) : ∀ (p i : Nat), r.2.2.length - i = p → i ≤ r.2.2.length → Ev2 (fun m k => plexusref48_Leaves.l0 m k r (i : Int) ((r.2.2.take i).map lf)) (r.2.2.map lf)
  | 0, i, hp, hi => by
    obtain rfl : i = r.2.2.length := by omega
    rw [List.take_length]
    exact Ev2.step (fun m k => plexusref48_Leaves.l0_succ m k _ _ _) (ev2F (dF (by omega)) (Ev2.now _))
  | p + 1, i, hp, hi => by
    have hlt : i < r.2.2.length := by omega
    have hl := hr.len
    have he := (hr.ent _ (List.getElem_mem hlt)).2.len
    refine Ev2.step (fun m k => plexusref48_Leaves.l0_succ m k _ _ _) (ev2T (dT (by omega)) (ev2T (by omega) (ev2T (by omega) ?_)))
    have := rleaves_l0 hz hr p (i + 1) (by omega) (by omega)
    rw [inc64 (by omega), gd hlt]
    rw [List.take_succ_eq_append_getElem hlt, List.map_append] at this
    exact Ev2.bind (rleaf_e r.2.2[i] (by omega)) (ev2T (by simp; omega) this)
theorem rleaves_e {r : RT} {z : Nat} (hz : z ≤ 1000) (hr : Reg z r) : Ev (fun k => plexusref48_Leaves.m k r) (r.2.2.map lf) :=
  evX (fun k => plexusref48_Leaves.m_eq k _) (rleaves_l0 hz hr r.2.2.length 0 (by omega) (by omega)).diag
theorem rroot_e {r : RT} {z : Nat} (hz : z ≤ 1000) (hr : Reg z r) : Ev (fun k => plexusref48_Root.m k r) (rg r.2.2) := by
  have hl := hr.len
  exact evX (fun k => plexusref48_Root.m_eq k _) (Ev.bind (rleaves_e hz hr) (Ev.bind (rt_r (l := r.2.2.map lf) (by rw [List.length_map]; omega) (lfs_U _)) (Ev.bind (rjoin_m (rt_U (lfs_U _)) (wrap_U _)) (Ev.now _))))
/-! ### the next edition -/
structure Chain (key : Int) (n : Nat) (c : List ED) : Prop where
  len : c.length ≤ n
  sig : Sig key c
  rts : ∀ e ∈ c, U e.2.2.1
theorem Chain.nil (key : Int) (n : Nat) : Chain key n [] := ⟨Nat.zero_le _, fun i h => absurd h (by simp), fun e h => absurd h (by simp)⟩
theorem ed_app {c d : List ED} {i : Nat} (h : i < c.length) : ed (c ++ d) i = ed c i := by unfold ed; rw [List.getD_eq_getElem?_getD, List.getD_eq_getElem?_getD, List.getElem?_append_left h]
theorem pv_app {c d : List ED} {i : Nat} (h : i ≤ c.length) : pv (c ++ d) i = pv c i := by
  unfold pv
  by_cases q : i = 0
  · rw [if_pos q, if_pos q]
  · rw [if_neg q, if_neg q, ed_app (by omega)]
theorem Sig.app {key : Int} {c : List ED} (h : Sig key c) (r : Int) : Sig key (c ++ [sgn key c.length (pv c c.length) r]) := fun i hi => by
  rw [List.length_append, List.length_singleton] at hi
  unfold okAt
  by_cases q : i < c.length
  · rw [ed_app q, pv_app (by omega)]
    exact h i q
  · obtain rfl : i = c.length := by omega
    have e : ed (c ++ [sgn key c.length (pv c c.length) r]) c.length = sgn key c.length (pv c c.length) r := by
      rw [ed_get (by simp)]; simp
    rw [e, pv_app (Nat.le_refl _)]
    rfl
theorem nextin_f {key : Int} (hk : U key) {n : Nat} (hn : n ≤ 50) {c : List ED} (hc : Chain key n c) {r : RT} (hr : Reg 6 r) : ∃ g : List ED × Int, Chain key (n + 1) g.1 ∧ Ev (fun k => plexusref48_NextIn.m k key c r) g := by
  have hl := hc.len
  have h1 := rcheck_e hk (c := c) (by omega)
  rw [if_pos hc.sig] at h1
  obtain ⟨u, hu⟩ := right_f (hr.mono (by omega))
  by_cases q : (u != 0) = true
  · exact ⟨([], 210), Chain.nil _ _, evX (fun k => plexusref48_NextIn.m_eq k _ _ _) (Ev.bind h1 (evF (by decide) (Ev.bind hu (evT q (Ev.now _)))))⟩
  have J : Ev (fun k => plexusref48_NextIn.j0 k key c (rg r.2.2) (pv c c.length)) (c ++ [sgn key c.length (pv c c.length) (rg r.2.2)], 0) := by
    refine evX (fun k => plexusref48_NextIn.j0_eq k _ _ _ _) ?_
    rw [inc64 (by omega)]
    exact Ev.bind (rtag_e hk _) (evT (by omega) (evT (by simp; omega) (Ev.now _)))
  refine ⟨(c ++ [sgn key c.length (pv c c.length) (rg r.2.2)], 0), ⟨by simp; omega, hc.sig.app _, fun e he => ?_⟩, evX (fun k => plexusref48_NextIn.m_eq k _ _ _) (Ev.bind h1 (evF (by decide) (Ev.bind hu (evF q (evF (dF (by omega)) (Ev.bind (rroot_e (by omega) hr) ?_))))))⟩
  · rcases List.mem_append.1 he with z | z
    · exact hc.rts e z
    · rw [List.mem_singleton.1 z]; exact rg_U _
  · by_cases h0 : c.length = 0
    · have e : pv c c.length = 0 := if_pos h0
      rw [e] at J ⊢
      exact evF (dF (by omega)) J
    · have e : IntKind.wrap IntKind.i64 ((c.length : Int) - 1) = ((c.length - 1 : Nat) : Int) := by rw [wrap_i64', w64 (by omega) (by omega)]; omega
      have e2 : pv c c.length = dg (ed c (c.length - 1)) := if_neg h0
      refine evT (dT (by omega)) ?_
      rw [e, gd (i := c.length - 1) (by omega), ← ed_get (i := c.length - 1) (by omega)]
      rw [e2] at J ⊢
      exact evT (by omega) (evT (by omega) (Ev.bind (rdigest_e _) J))
theorem made48_l0 {a : Int × List (Int × Int × List (List Int))} (hk : U a.1) (hb : ∀ y ∈ a.2, ∀ l ∈ y.2.2, ∀ x ∈ l, BY x) : ∀ (p i : Nat) (c : List ED), 4 - i = p → i ≤ 4 → Chain a.1 i c → ∃ q, Chain a.1 4 q ∧ Ev2 (fun n k => plexusref48_Made.l0 n k a c (i : Int)) q
  | 0, i, c, hp, hi, hc => by
    have hl := hc.len
    refine ⟨c, ⟨by omega, hc.sig, hc.rts⟩, Ev2.step (fun n k => plexusref48_Made.l0_succ n k _ _ _) ?_⟩
    by_cases q : decide ((i : Int) < (a.2.length : Int)) = true
    · exact ev2T q (ev2F (dF (by omega)) (Ev2.now _))
    · exact ev2F q (Ev2.now _)
  | p + 1, i, c, hp, hi, hc => by
    have hl := hc.len
    by_cases q : i < a.2.length
    · obtain ⟨r, hr, mr⟩ := made21_f (hb _ (List.getElem_mem q))
      obtain ⟨g, g1, g2⟩ := nextin_f hk (by omega) hc hr
      obtain ⟨d, d1, d2⟩ := made48_l0 hk hb p (i + 1) g.1 (by omega) (by omega) g1
      refine ⟨d, d1, Ev2.step (fun n k => plexusref48_Made.l0_succ n k _ _ _) (ev2T (dT (by omega)) (ev2T (dT (by omega)) (ev2T (by omega) (ev2T (by omega) ?_))))⟩
      rw [gd q, inc64 (by omega)]
      exact Ev2.bind mr (Ev2.bind g2 d2)
    · exact ⟨c, ⟨by omega, hc.sig, hc.rts⟩, Ev2.step (fun n k => plexusref48_Made.l0_succ n k _ _ _) (ev2F (dF (by omega)) (Ev2.now _))⟩
theorem made48_f {a : Int × List (Int × Int × List (List Int))} (hk : U a.1) (hb : ∀ y ∈ a.2, ∀ l ∈ y.2.2, ∀ x ∈ l, BY x) : ∃ q, Chain a.1 4 q ∧ Ev (fun k => plexusref48_Made.m k a) q := by
  obtain ⟨q, q1, q2⟩ := made48_l0 hk hb 4 0 [] rfl (by omega) (Chain.nil _ _)
  exact ⟨q, q1, evX (fun k => plexusref48_Made.m_eq k _) q2.diag⟩

end Go.Proofs.YtjnpcpnjcieheaaGreatQ
