/- PrivateWhole, but for the examples. -/
import Derived.Test.YtchpkglnmpmcmaaQOa
import Derived.Test.YtchpkglnmpmcmaaX47W
namespace Go.Proofs.YtchpkglnmpmcmaaQ
set_option linter.unusedVariables false
set_option linter.unusedSimpArgs false
set_option linter.unusedSectionVars false
open Go Go.RowKit Go.Proofs.Ytchpkglnmpmcmaa.V47 Go.Proofs.YtchpkglnmpmcmaaW.PrintWords Go.Proofs.YtchpkglnmpmcmaaW.PrintLast Go.Proofs.YtchpkglnmpmcmaaW.PrintMore
/-- The numbers from 0 on, in some order. -/
def Perm (n : Nat) (g : List Int) : Prop := g.length = n ∧ (∀ x ∈ g, ∃ i : Nat, x = i ∧ i < n) ∧ ∀ i : Nat, i < n → (i : Int) ∈ g
theorem perm_put {i : Nat} {g : List Int} (h : Perm i g) {a : Nat} (ha : a ≤ i) : Perm (i + 1) (g.take a ++ [(i : Int)] ++ g.drop a) := by
  obtain ⟨h1, h2, h3⟩ := h
  have hm : ∀ x, x ∈ g.take a ++ [(i : Int)] ++ g.drop a ↔ x = i ∨ x ∈ g := fun x => by
    have : x ∈ g ↔ x ∈ g.take a ∨ x ∈ g.drop a := by rw [← List.mem_append, List.take_append_drop]
    rw [this, List.mem_append, List.mem_append, List.mem_singleton]
    constructor
    · rintro ((q | q) | q)
      · exact .inr (.inl q)
      · exact .inl q
      · exact .inr (.inr q)
    · rintro (q | q | q)
      · exact .inl (.inr q)
      · exact .inl (.inl q)
      · exact .inr q
  refine ⟨by simp; omega, fun x hx => ?_, fun j hj => ?_⟩
  · rcases (hm x).1 hx with q | q
    · exact ⟨i, q, by omega⟩
    · obtain ⟨j, e, hj⟩ := h2 x q; exact ⟨j, e, by omega⟩
  · rw [hm]
    by_cases e : j = i
    · exact .inl (by rw [e])
    · exact .inr (h3 j (by omega))
theorem shuf_l0 {n : Nat} (hn : n ≤ 1000) {l : List Int} (hl : ∀ x ∈ l, BY x) : ∀ (d i : Nat) (g : List Int), n - i = d → i ≤ n → Perm i g → ∃ g', Perm n g' ∧ Ev2 (fun m k => plexusref06_Shuffled.l0 m k (n : Int) l (i : Int) g) g'
  | 0, i, g, hd, hi, hg => by
    obtain rfl : i = n := by omega
    exact ⟨g, hg, Ev2.step (fun m k => plexusref06_Shuffled.l0_succ m k _ _ _ _) (ev2F (dF (by omega)) (Ev2.now _))⟩
  | d + 1, i, g, hd, hi, hg => by
    obtain ⟨b, hb, hat⟩ := at_f hl (i := i)
    obtain ⟨z, rfl, hz⟩ : ∃ z : Nat, b = (z : Int) ∧ z < 256 := ⟨b.toNat, by have := hb.1; omega, by have := hb.1; have := hb.2; omega⟩
    have e1 : IntKind.wrap IntKind.i64 ((i : Int) + 1) = ((i + 1 : Nat) : Int) := inc64 (by omega)
    have e2 : Go.Vx.divF BinOp.rem IntKind.i64 (z : Int) ((i + 1 : Nat) : Int) = ((z % (i + 1) : Nat) : Int) := rem_range
    have ha : z % (i + 1) ≤ i := by have := Nat.mod_lt z (y := i + 1) (by omega); omega
    generalize z % (i + 1) = a at e2 ha
    obtain ⟨g', p1, p2⟩ := shuf_l0 hn hl d (i + 1) (g.take a ++ [(i : Int)] ++ g.drop a) (by omega) (by omega) (perm_put hg ha)
    have hgl := hg.1
    refine ⟨g', p1, Ev2.step (fun m k => plexusref06_Shuffled.l0_succ m k _ _ _ _) ?_⟩
    refine ev2T (dT (by omega)) (Ev2.bind ⟨0, fun k _ => hat k⟩ ?_)
    rw [e1, e2]
    simp only [Int.toNat_natCast]
    refine ev2F (by omega) (ev2T (by omega) (ev2T (by omega) (ev2T (by simp; omega) (ev2T (by simp; omega) (ev2T (by omega) (ev2T (by omega) (ev2T (by simp; omega) p2)))))))
theorem shuf_f {n : Nat} (hn : n ≤ 1000) {l : List Int} (hl : ∀ x ∈ l, BY x) : ∃ g, Perm n g ∧ Ev (fun k => plexusref06_Shuffled.m k (n : Int) l) g := by
  obtain ⟨g, h1, h2⟩ := shuf_l0 hn hl n 0 [] (by omega) (by omega) ⟨rfl, by simp, fun i hi => absurd hi (by omega)⟩
  exact ⟨g, h1, evX (fun k => plexusref06_Shuffled.m_eq k _ _) h2.diag⟩
section
variable {v : Nat} (h1 : 1 ≤ v) (h7 : v ≤ 7) {l : List Int} (hlen : l.length ≤ 10) (ha : Asc l) (hp : ∀ b ∈ l, PB v b) (s : Int) {g : List Int} (hg : Perm (l.length + 1) g) {o : List Int} (ho : ∀ x ∈ o, BY x) (ho40 : o.length ≤ 40)
/-- Openings of places of one structure. -/
def Of (v : Nat) (l : List Int) (s : Int) (L : List OT) : Prop := ∀ x ∈ L, ∃ i, i ≤ l.length ∧ x = opn v l s i
include h1 h7 hlen ha hp hg in
theorem pw_l2 {mixed : List OT} (hm : Of v l s mixed) (hl : mixed.length ≤ 1000) : ∀ (d i : Nat) (less : List OT), mixed.length - i = d → i ≤ mixed.length → Of v l s less → less.length ≤ i → (∀ x ∈ less, x.1 ≠ g.getD 0 0) →
    Ev2 (fun m k => plexuslaw47_PrivateWhole.l2 m k s true ((v : Int), l) (cmt v l s) g mixed (i : Int) less) true
  | 0, i, less, hd, hi, ho, hll, hno => by
    obtain rfl : i = mixed.length := by omega
    refine Ev2.step (fun m k => plexuslaw47_PrivateWhole.l2_succ m k _ _ _ _ _ _ _ _) ?_
    refine ev2F (dF (by omega)) ?_
    obtain ⟨q, hq, hqn⟩ : ∃ q : Nat, g.getD 0 0 = (q : Int) ∧ q < l.length + 1 := by
      have h0 : 0 < g.length := by rw [hg.1]; omega
      have e : g.getD 0 0 = g[0] := by rw [List.getD_eq_getElem?_getD, List.getElem?_eq_getElem h0]; rfl
      rw [e]; exact hg.2.1 _ (List.getElem_mem h0)
    have hs : Says l.length (saysAt (v : Int) l) less := fun x hx => by
      obtain ⟨j, hj, rfl⟩ := ho x hx
      exact ⟨j, hj, opn_at _ _ _ _, opn_says _ _ _ _⟩
    have w1 := whole_of (L := less) (by omega) (pwhole_lack (r := cmt v l s) (n := l.length) (by omega) (L := less) (by omega) (fun x hx => by
      obtain ⟨j, hj, rfl⟩ := ho x hx
      exact pcheck_opn _ _ (by omega) _ hj) hs (g := q) (by omega) (fun x hx => by rw [← hq]; exact hno x hx))
    have ev : IntKind.wrap IntKind.i64 ((v : Int) + 1) = ((v + 1 : Nat) : Int) := inc64 (by omega)
    have w2 := shown_f (((v + 1 : Nat) : Int), l) s (by show l.length ≤ _; omega) (i := 0) (Nat.zero_le _)
    have bad : chk (cmt v l s) l.length 0 (opn ((v + 1 : Nat) : Int) l s 0) = 470 := by
      have h := chk_A (chk_opn (v : Int) l s (i := 0) (Nat.zero_le _)) (opn_pathU _ _ _ _) (opn_fits (v := (v : Int)) (by unfold S; omega) l (by omega) s 0) (a := ((v + 1 : Nat) : Int)) (by unfold S; omega) (by
        rw [opn_says]; show ((v + 1 : Nat) : Int) ≠ (v : Int); omega)
      have e : opn ((v + 1 : Nat) : Int) l s 0 = ((opn (v : Int) l s 0).1, ((v + 1 : Nat) : Int), (opn (v : Int) l s 0).2.2.1, (opn (v : Int) l s 0).2.2.2.1, (opn (v : Int) l s 0).2.2.2.2) := by
        unfold opn
        rw [lvs_v (v : Int) ((v + 1 : Nat) : Int) l s, path_set 0 _ (l.length + 1) _ (lvs_len _ _ _)]
        rfl
      rw [e]; exact h
    have w3 := whole_of (L := mixed ++ [opn ((v + 1 : Nat) : Int) l s 0]) (by simp; omega) (pwhole_bad (r := cmt v l s) (n := l.length) (by omega) (L := mixed ++ [opn ((v + 1 : Nat) : Int) l s 0]) (by simp; omega) (j := mixed.length) (by simp) (c := 470) (by decide) (by
      rw [List.getElem_append_right (Nat.le_refl _)]
      simp only [Nat.sub_self, List.getElem_cons_zero]
      have := pcheck_f (r := cmt v l s) (n := l.length) (i := 0) (o := opn ((v + 1 : Nat) : Int) l s 0) (by omega) (Nat.zero_le _) (opn_at _ _ _ _) (opn_pathU _ _ _ _)
      rwa [bad] at this) (fun i h hlt => by
      rw [List.getElem_append_left hlt]
      obtain ⟨j, hj, e⟩ := hm _ (List.getElem_mem hlt)
      rw [e]
      exact pcheck_opn _ _ (by omega) _ hj))
    refine Ev2.bind w1 ?_
    rw [ev]
    refine Ev2.bind w2 (ev2T (by omega) (ev2T (by simp; omega) (Ev2.bind w3 ?_)))
    exact ev2T (by first | rfl | trivial) (ev2T rfl (ev2T rfl (ev2T rfl (Ev2.now _))))
  | d + 1, i, less, hd, hi, ho, hll, hno => by
    have hlt : i < mixed.length := by omega
    have e0 : List.getD mixed (Int.toNat (i : Int)) (Int.ofNat 0, Int.ofNat 0, Int.ofNat 0, Int.ofNat 0, []) = mixed[i] := by
      rw [Int.toNat_natCast, List.getD_eq_getElem?_getD, List.getElem?_eq_getElem hlt]; rfl
    refine Ev2.step (fun m k => plexuslaw47_PrivateWhole.l2_succ m k _ _ _ _ _ _ _ _) ?_
    rw [e0, inc64 (i := i) (by omega)]
    refine ev2T (dT (by omega)) (ev2T (by omega) (ev2T (by omega) ?_))
    by_cases q : mixed[i].1 = g.getD 0 0
    · exact ev2F (nF q) (pw_l2 hm hl d (i + 1) less (by omega) (by omega) ho (by omega) hno)
    · refine ev2T (nT q) (ev2T (by omega) (ev2T (by omega) (ev2T (by simp; omega) ?_)))
      refine pw_l2 hm hl d (i + 1) (less ++ [mixed[i]]) (by omega) (by omega) (fun x hx => ?_) (by simp; omega) (fun x hx => ?_)
      · rcases List.mem_append.1 hx with r | r
        · exact ho x r
        · rw [List.mem_singleton.1 r]; exact hm _ (List.getElem_mem hlt)
      · rcases List.mem_append.1 hx with r | r
        · exact hno x r
        · rw [List.mem_singleton.1 r]; exact q
include h1 h7 hlen ha hp hg ho ho40 in
theorem pw_l1 : ∀ (d i : Nat) (mixed : List OT), o.length - i = d → i ≤ o.length → mixed.length = l.length + 1 + i → Of v l s mixed → (∀ j, j ≤ l.length → opn v l s j ∈ mixed) →
    Ev2 (fun m k => plexuslaw47_PrivateWhole.l1 m k s o true ((v : Int), l) (cmt v l s) (opns v l s, true) g (i : Int) mixed) true
  | 0, i, mixed, hd, hi, hml, hof, hall => by
    refine Ev2.step (fun m k => plexuslaw47_PrivateWhole.l1_succ m k _ _ _ _ _ _ _ _ _) ?_
    have hgl : g.length = l.length + 1 := hg.1
    have w := whole_opens h1 (by omega) (l := l) (by omega) ha hp s (L := mixed) (by omega) hof hall
    refine ev2F (dF (by omega)) (Ev2.bind w (Ev2.bind (is_f ((v : Int), l) (by show l.length ≤ _; omega)) (ev2F (notF rfl) (ev2T (by omega) ?_))))
    have h0 := pw_l2 h1 h7 hlen ha hp s hg hof (by omega) mixed.length 0 [] (by omega) (by omega) (fun x hx => (by cases hx)) (by simp) (fun x hx => (by cases hx))
    exact Ev2.of h0.diag
  | d + 1, i, mixed, hd, hi, hml, hof, hall => by
    have hlt : i < o.length := by omega
    obtain ⟨z, hz, hz2⟩ : ∃ z : Nat, o[i] = (z : Int) ∧ z < 256 := by
      have hb := ho _ (List.getElem_mem hlt)
      exact ⟨o[i].toNat, by have := hb.1; omega, by have := hb.1; have := hb.2; omega⟩
    have e0 : List.getD o (Int.toNat (i : Int)) (Int.ofNat 0) = (z : Int) := by rw [getD_get hlt, hz]
    have e1 : IntKind.wrap IntKind.i64 (z : Int) = (z : Int) := by rw [wrap_i64', w64 (by omega) (by omega)]
    have e2 : IntKind.wrap IntKind.i64 ((l.length : Int) + 1) = ((l.length + 1 : Nat) : Int) := inc64 (by omega)
    have e3 : Go.Vx.divF BinOp.rem IntKind.i64 (z : Int) ((l.length + 1 : Nat) : Int) = ((z % (l.length + 1) : Nat) : Int) := rem_range
    have hq : z % (l.length + 1) ≤ l.length := by have := Nat.mod_lt z (y := l.length + 1) (by omega); omega
    generalize z % (l.length + 1) = q at e3 hq
    have e4 := opns_getD (v : Int) l s hq (Int.ofNat 0, Int.ofNat 0, Int.ofNat 0, Int.ofNat 0, [])
    have hol : (opns (v : Int) l s).length = l.length + 1 := opns_len _ _ _
    refine Ev2.step (fun m k => plexuslaw47_PrivateWhole.l1_succ m k _ _ _ _ _ _ _ _ _) ?_
    show Ev2 (fun m k => _) true
    simp only [e0, e1, e2, e3, e4]
    rw [inc64 (i := i) (by omega)]
    refine ev2T (dT (by omega)) (ev2T (by omega) (ev2T (by omega) (ev2F (by omega) (ev2T (by omega) (ev2T (by omega) (ev2T (by simp; omega) ?_))))))
    refine pw_l1 d (i + 1) (mixed ++ [opn v l s q]) (by omega) (by omega) (by simp; omega) (fun x hx => ?_) (fun j hj => List.mem_append_left _ (hall j hj))
    rcases List.mem_append.1 hx with r | r
    · exact hof x r
    · rw [List.mem_singleton.1 r]; exact ⟨q, hq, rfl⟩
include h1 h7 hlen ha hp hg ho ho40 in
theorem pw_l0 : ∀ (d i : Nat) (mixed : List OT), l.length + 1 - i = d → i ≤ l.length + 1 → mixed.length = i → Of v l s mixed → (∀ j, j < i → opn v l s (g.getD j 0).toNat ∈ mixed) →
    Ev2 (fun m k => plexuslaw47_PrivateWhole.l0 m k s o true ((v : Int), l) (cmt v l s) (opns v l s, true) g (i : Int) mixed) true
  | 0, i, mixed, hd, hi, hml, hof, hall => by
    obtain rfl : i = l.length + 1 := by omega
    refine Ev2.step (fun m k => plexuslaw47_PrivateWhole.l0_succ m k _ _ _ _ _ _ _ _ _) ?_
    refine ev2F (dF (by show ¬ (((l.length + 1 : Nat) : Int) ≤ (l.length : Int)); omega)) ?_
    have h0 := pw_l1 h1 h7 hlen ha hp s hg ho ho40 o.length 0 mixed (by omega) (by omega) (by omega) hof (fun j hj => by
      obtain ⟨q, hq, e⟩ := List.getElem_of_mem (hg.2.2 j (by omega))
      have := hall q (by rw [hg.1] at hq; exact hq)
      rwa [List.getD_eq_getElem?_getD, List.getElem?_eq_getElem hq, show (some g[q]).getD 0 = g[q] from rfl, e, Int.toNat_natCast] at this)
    exact Ev2.of h0.diag
  | d + 1, i, mixed, hd, hi, hml, hof, hall => by
    have hgl : g.length = l.length + 1 := hg.1
    have hlt : i < g.length := by omega
    obtain ⟨q, hq, hqn⟩ := hg.2.1 _ (List.getElem_mem hlt)
    have e0 : List.getD g (Int.toNat (i : Int)) (Int.ofNat 0) = (q : Int) := by rw [getD_get hlt, hq]
    have e0' : g.getD i 0 = (q : Int) := e0
    have e4 := opns_getD (v : Int) l s (i := q) (by omega) (Int.ofNat 0, Int.ofNat 0, Int.ofNat 0, Int.ofNat 0, [])
    have hol : (opns (v : Int) l s).length = l.length + 1 := opns_len _ _ _
    refine Ev2.step (fun m k => plexuslaw47_PrivateWhole.l0_succ m k _ _ _ _ _ _ _ _ _) ?_
    show Ev2 (fun m k => _) true
    simp only [e0, e4]
    rw [inc64 (i := i) (by omega)]
    refine ev2T (dT (by show (i : Int) ≤ (l.length : Int); omega)) (ev2T (by omega) (ev2T (by omega) (ev2T (by omega) (ev2T (by omega) (ev2T (by simp; omega) ?_)))))
    refine pw_l0 d (i + 1) (mixed ++ [opn v l s q]) (by omega) (by omega) (by simp; omega) (fun x hx => ?_) (fun j hj => ?_)
    · rcases List.mem_append.1 hx with r | r
      · exact hof x r
      · rw [List.mem_singleton.1 r]; exact ⟨q, by omega, rfl⟩
    · by_cases e : j = i
      · subst e
        rw [e0', Int.toNat_natCast]
        exact List.mem_append_right _ (List.mem_singleton.2 rfl)
      · exact List.mem_append_left _ (hall j (by omega))
end
theorem pwlaw_of (hex : Ev (fun k => plexuslaw47_examples.m k) true) {a0 : List Int} (ha : ∀ x ∈ a0, BY x) (s : Int) {a2 : List Int} (hb : ∀ x ∈ a2, BY x) : Ev (fun k => plexuslaw47_PrivateWhole.m k a0 s a2) true := by
  refine evX (fun k => plexuslaw47_PrivateWhole.m_eq k _ _ _) ?_
  refine Ev.bind hex (evF (by decide) ?_)
  by_cases h40 : (a2.length : Int) > 40
  · exact evT (dT h40) (Ev.now _)
  refine evF (dF h40) ?_
  obtain ⟨v, ⟨xv, l⟩, hv1, hv7, ok, hm⟩ := made_f ha
  obtain rfl : xv = (v : Int) := ok.pts
  have hlen : l.length ≤ 10 := ok.len
  have hl4 : ((v : Int), l).2.length ≤ 10000 := by show l.length ≤ _; omega
  obtain ⟨g, hg, hsh⟩ := shuf_f (n := l.length + 1) (by omega) hb
  refine Ev.bind hm (Ev.bind (commit_f ((v : Int), l) s hl4) (Ev.bind (every_f ((v : Int), l) s hl4) (evF (notF rfl) ?_)))
  have e : IntKind.wrap IntKind.i64 ((l.length : Int) + 1) = ((l.length + 1 : Nat) : Int) := inc64 (by omega)
  show Ev (fun k => _) true
  simp only [e]
  refine Ev.bind hsh ?_
  exact (pw_l0 hv1 hv7 hlen ok.asc ok.pb s hg hb (by omega) (l.length + 1) 0 [] (by omega) (by omega) rfl (fun x hx => (by cases hx)) (fun j hj => absurd hj (by omega))).diag
end Go.Proofs.YtchpkglnmpmcmaaQ
