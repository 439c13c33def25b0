/- Code and functions. -/
import Derived.Test.YtcanekmlabehgaaVl
import Derived.LoopN
import Derived.Scope
namespace Go.Vx
open Go.RowKit Go.Proofs.YtcanekmlabehgaaW.PrintWords
set_option linter.unusedVariables false
set_option linter.unusedSimpArgs false

/-! ### states in their normal form -/
def posN : Nat → List Nat → Option Nat
  | _, [] => none
  | t, u :: l => bif Nat.beq t u then some 0 else (match posN t l with
    | some i => some (i + 1)
    | none => none)
theorem posN_get : ∀ {t i : Nat} {l : List Nat}, posN t l = some i → l[i]? = some t
  | t, i, u :: l, h => by
    unfold posN at h
    cases hb : Nat.beq t u with
    | true =>
      rw [hb] at h
      obtain rfl := Option.some.inj h
      rw [Nat.eq_of_beq_eq_true hb]; rfl
    | false =>
      rw [hb] at h
      simp only [cond_false] at h
      split at h
      · rename_i j hj
        obtain rfl := Option.some.inj h
        exact posN_get (l := l) hj
      · cases h
def memN : Nat → List Nat → Bool
  | _, [] => false
  | t, u :: l => bif Nat.beq t u then true else memN t l
theorem memN_no : ∀ {t : Nat} {l : List Nat}, memN t l = false → ∀ i : Nat, l[i]? ≠ some t
  | t, [], _, i => by simp
  | t, u :: l, h, i => by
    unfold memN at h
    cases hb : Nat.beq t u with
    | true => rw [hb] at h; cases h
    | false =>
      rw [hb] at h
      cases i with
      | zero => intro e; obtain rfl := Option.some.inj e; rw [Nat.beq_refl] at hb; cases hb
      | succ i => exact memN_no (l := l) h i
def nodupN : List Nat → Bool
  | [] => true
  | t :: l => bif memN t l then false else nodupN l
theorem nodupN_ne : ∀ {l : List Nat}, nodupN l = true → ∀ {i j t t' : Nat}, l[i]? = some t → l[j]? = some t' → i ≠ j → t ≠ t'
  | u :: l, h, i, j, t, t', hi, hj, hne => by
    unfold nodupN at h
    cases hm : memN u l with
    | true => rw [hm] at h; cases h
    | false =>
      rw [hm] at h
      cases i with
      | zero =>
        obtain rfl := Option.some.inj hi
        cases j with
        | zero => exact absurd rfl hne
        | succ j => intro e; subst e; exact memN_no hm j hj
      | succ i =>
        cases j with
        | zero =>
          obtain rfl := Option.some.inj hj
          intro e; subst e; exact memN_no hm i hi
        | succ j => exact nodupN_ne (l := l) h (i := i) (j := j) hi hj (fun e => hne (by rw [e]))
def renA (L : List Nat) : AV → AV
  | .own t => match posN t L with
    | some i => .own i
    | none => .dead
  | .ptr t o => match posN t L with
    | some i => .ptr i o
    | none => .dead
  | .epo t j z o => match posN t L with
    | some i => .epo i j z o
    | none => .dead
  | av => av
def renB (L : List Nat) : AV → AV
  | .fn f caps => .fn f (caps.map (renA L))
  | av => renA L av
def renC (L : List Nat) : AV → AV
  | .agg cs => .agg (cs.map (renB L))
  | .cp cs => .cp (cs.map (renB L))
  | av => renB L av
def renR (L : List Nat) : AV → AV
  | .tup cs => .tup (cs.map (renC L))
  | av => renC L av
def renE (L : List Nat) : Ent → Ent
  | .row r => .row r
  | .box T cells => .box T (cells.map (renB L))
def Env.ren (E : Env) (L : List Nat) : Env := ⟨fun i => match L[i]? with | some t => E.vs t | none => undef, E.F, fun i => i < L.length⟩
theorem All2.maps {β : Type} {Q S : AV → β → Prop} {f : AV → AV} (h : ∀ a b, Q a b → S (f a) b) : ∀ {l : List AV} {m : List β}, All2 Q l m → All2 S (l.map f) m
  | [], [], _ => trivial
  | _ :: _, _ :: _, q => ⟨h _ _ q.1, All2.maps h q.2⟩
  | [], _ :: _, q => q.elim
  | _ :: _, [], q => q.elim
section
variable {E : Env} {L : List Nat} {w : World}
theorem ren_vs {t i : Nat} (h : posN t L = some i) : (E.ren L).U i ∧ (E.ren L).vs i = E.vs t := by
  have h1 := posN_get h
  refine ⟨(List.getElem?_eq_some_iff.1 h1).1, ?_⟩
  simp only [Env.ren, h1]
theorem VA.ren {av : AV} {u : Value} (h : VA E w av u) : VA (E.ren L) w (renA L av) u := by
  cases av with
  | own t =>
    simp only [renA]
    split
    · rename_i i hi
      obtain ⟨h1, h2⟩ := ren_vs (E := E) hi
      exact ⟨h1, by rw [h2]; exact h.2⟩
    · trivial
  | ptr t o =>
    simp only [renA]
    split
    · rename_i i hi
      obtain ⟨h1, h2⟩ := ren_vs (E := E) hi
      exact ⟨h1, by rw [h2]; exact h.2⟩
    · trivial
  | epo t j z o =>
    simp only [renA]
    split
    · rename_i i hi
      obtain ⟨h1, h2⟩ := ren_vs (E := E) hi
      exact ⟨h1, by rw [h2]; exact h.2⟩
    · trivial
  | val v => exact h
  | sh k xs => exact h
  | dead => trivial
  | cp _ => exact h
  | agg _ => exact h
  | tup _ => exact h
  | fn _ _ => exact h
theorem VB.ren {av : AV} {u : Value} (h : VB E w av u) : VB (E.ren L) w (renB L av) u := by
  have key : VA E w av u → VB (E.ren L) w (renA L av) u := fun q => by
    have := VA.ren (L := L) q
    revert this
    cases renA L av <;> first | exact fun q => q | exact fun q => q.elim
  cases av with
  | fn f caps =>
    obtain ⟨vals, e, hc⟩ := h
    exact ⟨vals, e, hc.maps fun _ _ q => VA.ren q⟩
  | val v => exact key h
  | own t => exact key h
  | sh k xs => exact key h
  | ptr t o => exact key h
  | epo t j z o => exact key h
  | dead => exact key h
  | cp _ => exact h.elim
  | agg _ => exact h.elim
  | tup _ => exact h.elim
theorem VC.ren {av : AV} {u : Value} (h : VC E w av u) : VC (E.ren L) w (renC L av) u := by
  have key : VB E w av u → VC (E.ren L) w (renB L av) u := fun q => (VB.ren (L := L) q).c
  cases av with
  | agg cells =>
    obtain ⟨vals, e, hc⟩ := h
    exact ⟨vals, e, hc.maps fun _ _ q => VB.ren q⟩
  | cp cells =>
    obtain ⟨ad, vals, e, hf, hc, hm⟩ := h
    exact ⟨ad, vals, e, hf, hc.maps fun _ _ q => VB.ren q, hm⟩
  | val v => exact key h
  | own t => exact key h
  | sh k xs => exact key h
  | ptr t o => exact key h
  | epo t j z o => exact key h
  | dead => exact key h
  | fn f cs => exact key h
  | tup _ => exact h.elim
theorem VR.ren {av : AV} {u : Value} (h : VR E w av u) : VR (E.ren L) w (renR L av) u := by
  have key : VC E w av u → VR (E.ren L) w (renC L av) u := fun q => (VC.ren (L := L) q).r
  cases av with
  | tup cells =>
    obtain ⟨vals, e, hc⟩ := h
    exact ⟨vals, e, hc.maps fun _ _ q => VC.ren q⟩
  | agg cells => exact key h
  | cp cells => exact key h
  | val v => exact key h
  | own t => exact key h
  | sh k xs => exact key h
  | ptr t o => exact key h
  | epo t j z o => exact key h
  | dead => exact key h
  | fn f cs => exact key h
end
def entsR (L : List Nat) (ents : List (Nat × Ent)) : List Nat → Nat → List (Nat × Ent)
  | [], _ => []
  | t :: l, i => match find t ents with
    | some e => (i, renE L e) :: entsR L ents l (i + 1)
    | none => entsR L ents l (i + 1)
theorem entsR_find {L : List Nat} {ents : List (Nat × Ent)} : ∀ {l : List Nat} {i j : Nat} {e : Ent}, find j (entsR L ents l i) = some e → i ≤ j ∧ ∃ t e0, l[j - i]? = some t ∧ find t ents = some e0 ∧ e = renE L e0
  | [], i, j, e, h => by simp [entsR, find] at h
  | t :: l, i, j, e, h => by
    have rest : find j (entsR L ents l (i + 1)) = some e → i ≤ j ∧ ∃ t' e0, (t :: l)[j - i]? = some t' ∧ find t' ents = some e0 ∧ e = renE L e0 := fun h => by
      obtain ⟨h1, t', e0, h2, h3⟩ := entsR_find h
      refine ⟨by omega, t', e0, ?_, h3⟩
      rw [show j - i = (j - (i + 1)) + 1 by omega]
      exact h2
    unfold entsR at h
    split at h
    · rename_i e0 he
      unfold find at h
      cases hb : Nat.beq j i with
      | true =>
        rw [hb] at h
        obtain rfl := Option.some.inj h
        obtain rfl := Nat.eq_of_beq_eq_true hb
        exact ⟨Nat.le_refl _, t, e0, by simp, he, rfl⟩
      | false =>
        rw [hb] at h
        exact rest h
    · exact rest h
def killN : List Nat → List AV → List AV
  | [], l => l
  | d :: ds, l => killN ds (setN l d .dead)
def tagsA : AV → List Nat
  | .own t => [t]
  | .ptr t _ => [t]
  | .epo t _ _ _ => [t]
  | _ => []
def tagsB : AV → List Nat
  | .fn _ cs => cs.flatMap tagsA
  | av => tagsA av
def tagsC : AV → List Nat
  | .agg cs => cs.flatMap tagsB
  | .cp cs => cs.flatMap tagsB
  | av => tagsB av
def tagsR : AV → List Nat
  | .tup cs => cs.flatMap tagsC
  | av => tagsC av
/-- The tags that are still of use, in the order in which they are met. -/
def closeL (ents : List (Nat × Ent)) : Nat → List Nat → List Nat → List Nat
  | 0, d, _ => d
  | _, d, [] => d
  | n + 1, d, t :: todo => bif memN t d then closeL ents n d todo else (match find t ents with
    | some (.row _) => closeL ents n (d ++ [t]) todo
    | some (.box _ cells) => closeL ents n (d ++ [t]) (todo ++ cells.flatMap tagsB)
    | none => closeL ents n d todo)
def renS (s : St) (L : List Nat) : St := ⟨s.tmps.map (renR L), entsR L s.ents L 0, L.length⟩
/-- What is done to a state where ways meet: slots that are dropped; slots and variables' cells whose nil slices become rows of one's own (with the elements' type) or shared ones. -/
structure Ann where
  kill : List Nat
  nils : List (Nat × Option Nat × K × Option TypeId)
def nil1 (s : St) : Nat × Option Nat × K × Option TypeId → St
  | (d, none, k, none) => match nth s.tmps d with
    | .val (.slice none 0 0) => ⟨setN s.tmps d (.sh k []), s.ents, s.nx⟩
    | .own t => match asSh s (.own t) with
      | some r => ⟨setN s.tmps d (.sh r.k r.xs), s.ents, s.nx⟩
      | none => s
    | _ => s
  | (d, none, k, some T) => match nth s.tmps d with
    | .val (.slice none 0 0) => ⟨setN s.tmps d (.own s.nx), (s.nx, .row ⟨k, T, false, []⟩) :: s.ents, s.nx + 1⟩
    | _ => s
  | (d, some j, k, none) => match nth s.tmps d with
    | .ptr t _ => match find t s.ents with
      | some (.box T cells) => match nth cells j with
        | .val (.slice none 0 0) => ⟨s.tmps, upd t (.box T (setN cells j (.sh k []))) s.ents, s.nx⟩
        | .own u => match asSh s (.own u) with
          | some r => ⟨s.tmps, upd t (.box T (setN cells j (.sh r.k r.xs))) s.ents, s.nx⟩
          | none => s
        | _ => s
      | _ => s
    | _ => s
  | (d, some j, k, some T) => match nth s.tmps d with
    | .ptr t _ => match find t s.ents with
      | some (.box T' cells) => match nth cells j with
        | .val (.slice none 0 0) => ⟨s.tmps, (s.nx, .row ⟨k, T, false, []⟩) :: upd t (.box T' (setN cells j (.own s.nx))) s.ents, s.nx + 1⟩
        | _ => s
      | _ => s
    | _ => s
def nilsS (s : St) : List (Nat × Option Nat × K × Option TypeId) → St
  | [] => s
  | a :: l => nilsS (nil1 s a) l
def normS1 (ks : List Nat) (s : St) : St :=
  bif nodupN (closeL s.ents 60 [] ((killN ks s.tmps).flatMap tagsR)) then renS ⟨killN ks s.tmps, s.ents, s.nx⟩ (closeL s.ents 60 [] ((killN ks s.tmps).flatMap tagsR)) else ⟨killN ks s.tmps, s.ents, s.nx⟩
def normS (n : Ann) (s : St) : St := normS1 n.kill (nilsS s n.nils)
theorem nth_map (f : AV → AV) (hf : f .dead = .dead) : ∀ (l : List AV) (i : Nat), nth (l.map f) i = f (nth l i)
  | [], _ => by simp [nth, hf]
  | _ :: _, 0 => rfl
  | _ :: l, i + 1 => nth_map f hf l i
theorem Sim.kill {W0 : Base} {E : Env} {a : Act} {w : World} : ∀ (ks : List Nat) {s : St}, Sim W0 E s a w → Sim W0 E ⟨killN ks s.tmps, s.ents, s.nx⟩ a w
  | [], s, h => h
  | d :: ks, s, h => by
    have h1 : Sim W0 E ⟨setN s.tmps d .dead, s.ents, s.nx⟩ a w := by
      refine ⟨⟨h.below, h.fz, h.old, h.used, h.ents, h.apart⟩, h.defers, by rw [setN_length]; exact h.tl, fun i => ?_⟩
      rw [nth_setN]
      split
      · trivial
      · exact h.slots i
    exact Sim.kill ks h1
theorem Sim.ren {W0 : Base} {E : Env} {s : St} {a : Act} {w : World} (h : Sim W0 E s a w) {L : List Nat} (hn : nodupN L = true) : Sim W0 (E.ren L) (renS s L) a w := by
  refine ⟨⟨h.below, h.fz, h.old, fun _ q => q, fun i e hi => ?_, fun i j e e' b hne hi hj hb hb' => ?_⟩, h.defers, by rw [show (renS s L).tmps.length = s.tmps.length from List.length_map _]; exact h.tl, fun i => ?_⟩
  · obtain ⟨_, t, e0, h1, h2, rfl⟩ := entsR_find hi
    rw [Nat.sub_zero] at h1
    obtain ⟨_, hok⟩ := h.ents t e0 h2
    have hvs : (E.ren L).vs i = E.vs t := by simp only [Env.ren, h1]
    refine ⟨(List.getElem?_eq_some_iff.1 h1).1, ?_⟩
    rw [hvs]
    cases e0 with
    | row r => exact hok
    | box T cells =>
      obtain ⟨b, vals, q1, q2, q3, q4, q5⟩ := hok
      exact ⟨b, vals, q1, q2, q3, q4, q5.maps fun _ _ q => VB.ren q⟩
  · obtain ⟨_, t, e0, h1, h2, _⟩ := entsR_find hi
    obtain ⟨_, t', e0', h1', h2', _⟩ := entsR_find hj
    rw [Nat.sub_zero] at h1 h1'
    simp only [Env.ren, h1] at hb
    simp only [Env.ren, h1'] at hb'
    exact h.apart t t' e0 e0' b (nodupN_ne hn h1 h1' hne) h2 h2' hb hb'
  · show VR (E.ren L) w (nth (s.tmps.map (renR L)) i) _
    rw [nth_map _ rfl]
    exact (h.slots i).ren
theorem rd_nil {w : World} {F : Nat → Prop} {k : K} : Rd w F (.slice k) ([] : List k.T) [.slice none 0 0] :=
  ⟨none, 0, rfl, Nat.le_refl _, ⟨rfl, by simp, fun h0 => absurd h0 (by simp)⟩, fun h0 => absurd h0 (by simp)⟩
theorem Sim.slot {W0 : Base} {E : Env} {s : St} {a : Act} {w : World} (h : Sim W0 E s a w) (d : Nat) {av : AV} (ha : VR E w av (a.tmps.getD d undef)) : Sim W0 E ⟨setN s.tmps d av, s.ents, s.nx⟩ a w := by
  refine ⟨⟨h.below, h.fz, h.old, h.used, h.ents, h.apart⟩, h.defers, by rw [setN_length]; exact h.tl, fun i => ?_⟩
  rw [nth_setN]
  split
  · rename_i q; rw [q.1]; exact ha
  · exact h.slots i
theorem Sim.boxed {W0 : Base} {E : Env} {s : St} {a : Act} {w : World} (h : Sim W0 E s a w) {t : Nat} {T : TypeId} {cells cells' : List AV} (he : find t s.ents = some (.box T cells)) (hc : ∀ vals : List Value, All2 (VB E w) cells vals → All2 (VB E w) cells' vals) :
    Sim W0 E ⟨s.tmps, upd t (.box T cells') s.ents, s.nx⟩ a w := by
  refine ⟨⟨h.below, h.fz, h.old, h.used, fun t' e ht => ?_, fun t1 t2 e1 e2 b hne h1 h2 hb1 hb2 => ?_⟩, h.defers, h.tl, h.slots⟩
  · rw [find_upd] at ht
    split at ht
    · rename_i q
      obtain rfl := Option.some.inj ht
      subst q
      obtain ⟨hu, b, vals, q1, q2, q3, q4, q5⟩ := h.ents _ _ he
      exact ⟨hu, b, vals, q1, q2, q3, q4, hc _ q5⟩
    · exact h.ents t' e ht
  · rw [find_upd] at h1 h2
    have f1 : ∃ d, find t1 s.ents = some d := by
      by_cases q : t1 = t
      · exact ⟨_, by rw [q]; exact he⟩
      · rw [if_neg q] at h1; exact ⟨_, h1⟩
    have f2 : ∃ d, find t2 s.ents = some d := by
      by_cases q : t2 = t
      · exact ⟨_, by rw [q]; exact he⟩
      · rw [if_neg q] at h2; exact ⟨_, h2⟩
    obtain ⟨d1, f1⟩ := f1
    obtain ⟨d2, f2⟩ := f2
    exact h.apart t1 t2 d1 d2 b hne f1 f2 hb1 hb2
theorem All2.set {Q : AV → Value → Prop} : ∀ {l : List AV} {m : List Value} (j : Nat) {x : AV}, All2 Q l m → (∀ u, Q (Vx.nth l j) u → Q x u) → All2 Q (Vx.setN l j x) m
  | [], [], _, _, _, _ => trivial
  | _ :: _, _ :: _, 0, _, h, hx => ⟨hx _ h.1, h.2⟩
  | _ :: _, _ :: _, j + 1, _, h, hx => ⟨h.1, All2.set j h.2 hx⟩
  | [], _ :: _, _, _, h, _ => h.elim
  | _ :: _, [], _, _, h, _ => h.elim
theorem own_nil_ok (W0 : Base) (E : Env) (w : World) (k : K) (T : TypeId) : EntOK W0 E w (.slice none 0 0) (.row ⟨k, T, false, []⟩) :=
  ⟨⟨[], own_nil _ _ _ _, Reps.none _ _⟩, fun b hb => by cases hb⟩
theorem Sim.nil1 {W0 : Base} {E : Env} {s : St} {a : Act} {w : World} (h : Sim W0 E s a w) (x : Nat × Option Nat × K × Option TypeId) : ∃ E', Sim W0 E' (Vx.nil1 s x) a w := by
  obtain ⟨d, j, k, T⟩ := x
  cases j with
  | none =>
    cases T with
    | none =>
      simp only [Vx.nil1]
      split
      · rename_i hx
        refine ⟨E, h.slot d ?_⟩
        have := h.slots d
        rw [hx] at this
        rw [show a.tmps.getD d undef = _ from this]
        exact rd_nil
      · rename_i t hx
        split
        · rename_i r hr
          refine ⟨E, h.slot d ?_⟩
          have := h.slots d
          rw [hx] at this
          exact asSh_ok h.toSimS hr this
        · exact ⟨E, h⟩
      · exact ⟨E, h⟩
    | some T =>
      simp only [Vx.nil1]
      split
      · rename_i hx
        have hv := h.slots d
        rw [hx] at hv
        obtain ⟨h1, _⟩ := h.here (v := .slice none 0 0) (own_nil_ok W0 _ w k T) (fun t e b _ _ q => by cases q)
        refine ⟨_, (h1.slot d (av := .own s.nx) ?_)⟩
        rw [show a.tmps.getD d undef = _ from hv]
        exact ⟨.inr rfl, by simp [Env.add]⟩
      · exact ⟨E, h⟩
  | some j =>
    cases T with
    | none =>
      simp only [Vx.nil1]
      split
      · rename_i t off hx
        split
        · rename_i T' cells he
          split
          · rename_i hn
            exact ⟨E, h.boxed he fun vals hc => hc.set j fun u hu => by rw [hn] at hu; rw [show u = _ from hu]; exact rd_nil⟩
          · rename_i u hn
            split
            · rename_i r hr
              exact ⟨E, h.boxed he fun vals hc => hc.set j fun v hv => by rw [hn] at hv; exact asSh_ok h.toSimS hr (VB.r hv)⟩
            · exact ⟨E, h⟩
          · exact ⟨E, h⟩
        · exact ⟨E, h⟩
      · exact ⟨E, h⟩
    | some T =>
      simp only [Vx.nil1]
      split
      · rename_i t off hx
        split
        · rename_i T' cells he
          split
          · rename_i hn
            obtain ⟨h1, st⟩ := h.here (v := .slice none 0 0) (own_nil_ok W0 _ w k T) (fun t e b _ _ q => by cases q)
            have hlt : t ≠ s.nx := fun e => Nat.lt_irrefl _ (by have := h.used t (h.ents _ _ he).1; rwa [e] at this)
            have he1 : find t (s.add (.row ⟨k, T, false, []⟩)).ents = some (.box T' cells) := by
              simp only [St.add, find, beq_ne hlt, cond_false]; exact he
            have h2 := h1.boxed (cells' := setN cells j (.own s.nx)) he1 fun vals hc => hc.set j fun u hu => by
              rw [hn] at hu
              rw [show u = _ from hu]
              exact ⟨.inr rfl, by simp [Env.add]⟩
            have e : upd t (.box T' (setN cells j (.own s.nx))) (s.add (.row ⟨k, T, false, []⟩)).ents = (s.nx, .row ⟨k, T, false, []⟩) :: upd t (.box T' (setN cells j (.own s.nx))) s.ents := by
              simp only [St.add, upd, beq_ne hlt, cond_false]
            rw [e] at h2
            exact ⟨_, h2⟩
          · exact ⟨E, h⟩
        · exact ⟨E, h⟩
      · exact ⟨E, h⟩
theorem Sim.nils {W0 : Base} {a : Act} {w : World} : ∀ (l : List (Nat × Option Nat × K × Option TypeId)) {E : Env} {s : St}, Sim W0 E s a w → ∃ E', Sim W0 E' (nilsS s l) a w
  | [], E, s, h => ⟨E, h⟩
  | x :: l, E, s, h => by
    obtain ⟨E1, h1⟩ := h.nil1 x
    exact Sim.nils l h1
theorem Sim.norm {W0 : Base} {E : Env} {s : St} {a : Act} {w : World} (h : Sim W0 E s a w) (n : Ann) : ∃ E', Sim W0 E' (normS n s) a w := by
  unfold normS
  obtain ⟨E0, h0⟩ := h.nils n.nils
  generalize nilsS s n.nils = s at *
  generalize n.kill = ks
  have h1 := h0.kill ks
  unfold normS1
  cases hn : nodupN (closeL s.ents 60 [] ((killN ks s.tmps).flatMap tagsR)) with
  | true => exact ⟨_, h1.ren hn⟩
  | false => exact ⟨_, h1⟩

/-! ### code -/
inductive AEx where
  | normal
  | exit (id : Nat)
  | ret
section
variable {R : Type}
def loopK : Nat → (St → (AEx → St → Option R) → Option R) → (St → St) → St → (AEx → St → Option R) → Option R
  | 0, _, _, _, _ => none
  | n + 1, body, nm, s, k => body s fun e s' => match e with
    | .normal => loopK n body nm (nm s') k
    | e => k e s'
def firstReg : Code → Option Nat
  | .region id _ _ => some id
  | .seq a b => match firstReg a with
    | some x => some x
    | none => firstReg b
  | .cond _ a b => match firstReg a with
    | some x => some x
    | none => firstReg b
  | .block _ c => firstReg c
  | .loop c => firstReg c
  | .scope c => firstReg c
  | _ => none
def annOf : List (Nat × Ann) → Nat → Option Ann
  | [], _ => none
  | (i, ks) :: l, id => bif Nat.beq i id then some ks else annOf l id
/-- What is done to a state at a loop's head. -/
def nmOf (ann : List (Nat × Ann)) (c : Code) (s : St) : St :=
  match firstReg c with
  | some id => match annOf ann (id + 1000000) with
    | some ks => normS ks s
    | none => s
  | none => s
def exec (P : Program) (fns : Fns) (ann : List (Nat × Ann)) (fuel : Nat) : Code → St → (AEx → St → Option R) → Option R
  | .skip, s, k => k .normal s
  | .label _, s, k => k .normal s
  | .exit id, s, k => k (.exit id) s
  | .ret, s, k => k .ret s
  | .region id ops draw, s, k => match annOf ann id with
    | some ks => bif draw then (bif Region.lexB .any ops then runQ P fns ops ops.toList (normS ks s) (k .normal) else none) else runL P fns ops ops.toList (normS ks s) (k .normal)
    | none => bif draw then (bif Region.lexB .any ops then runQ P fns ops ops.toList s (k .normal) else none) else runL P fns ops ops.toList s (k .normal)
  | .seq x y, s, k => exec P fns ann fuel x s fun e s' => match e with
    | .normal => exec P fns ann fuel y s' k
    | e => k e s'
  | .cond c x y, s, k => match evl s c with
    | .val (.bool b) => oif (b = true) (exec P fns ann fuel x s k) (exec P fns ann fuel y s k)
    | _ => none
  | .block id c, s, k => exec P fns ann fuel c s fun e s' => match e with
    | .exit j => bif Nat.beq j id then k .normal s' else k (.exit j) s'
    | e => k e s'
  | .loop c, s, k => loopK fuel (exec P fns ann fuel c) (nmOf ann c) (nmOf ann c s) k
  | .scope c, s, k => exec P fns ann fuel c s k
  | _, _, _ => none
/-- What holds behind a piece of code. -/
def Post (k : AEx → St → Option R) (r : R) (W0 : Base) : Exit → Act → World → Prop
  | .normal, a, w => ∃ s E, k .normal s = some r ∧ Sim W0 E s a w
  | .exit id, a, w => ∃ s E, k (.exit id) s = some r ∧ Sim W0 E s a w
  | .ret, a, w => ∃ s E, k .ret s = some r ∧ Sim W0 E s a w
  | _, _, _ => False
theorem region_ok {P : Program} {fns : Fns} (hg : fns.good P) (hm : P.follows .mixedOrders = true) {id : Nat} {ops : Array Oper} {draw : Bool} {k : AEx → St → Option R} {r : R} {W0 : Base} {s : St} {E : Env} {a : Act} {w : World}
    (h : (bif draw then (bif Region.lexB .any ops then runQ P fns ops ops.toList s (k .normal) else none) else runL P fns ops ops.toList s (k .normal)) = some r) (hs : Sim W0 E s a w) : (Code.region id ops draw).wp P (Post k r W0) a w := by
  cases draw with
  | false =>
    exact wp_region_list (runL_ok hg (fun s' E' a' w' hk h' => ⟨s', E', hk, h'⟩) ops.toList s E a w h hs)
  | true =>
    simp only [cond_true] at h
    cases hB : Region.lexB .any ops with
    | false => rw [hB] at h; cases h
    | true =>
      rw [hB] at h
      refine wp_region_quiet (C := Below w.heap.size w) hm hB (below_drew (Below.refl _ _)) ?_
      have := runQ_ok hg ops.toList s a h hs
      have mono : ∀ (l : List Oper) (a : Act), wpQuiet P ops (Below w.heap.size w) (fun a' => ∃ s', k .normal s' = some r ∧ Sim W0 E s' a' w) l a → wpQuiet P ops (Below w.heap.size w) (fun a' => ∀ w', Below w.heap.size w w' → Post k r W0 .normal a' w') l a := by
        intro l
        induction l with
        | nil =>
          intro a h w' hb
          obtain ⟨s', hk, h'⟩ := h
          exact ⟨s', E, hk, h'.below' hb⟩
        | cons o l ih =>
          intro a h
          unfold wpQuiet at h ⊢
          split
          · rename_i hw
            rw [if_pos hw] at h
            obtain ⟨v, h1, h2⟩ := h
            exact ⟨v, h1, ih _ h2⟩
          · rename_i hw
            rw [if_neg hw] at h
            exact ih _ h
      exact mono _ _ this
theorem nm_ok (ann : List (Nat × Ann)) (c : Code) {W0 : Base} {E : Env} {s : St} {a : Act} {w : World} (h : Sim W0 E s a w) : ∃ E', Sim W0 E' (nmOf ann c s) a w := by
  unfold nmOf
  split
  · split
    · exact h.norm _
    · exact ⟨E, h⟩
  · exact ⟨E, h⟩
theorem exec_ok {P : Program} {fns : Fns} (hg : fns.good P) (hm : P.follows .mixedOrders = true) {ann : List (Nat × Ann)} {fuel : Nat} {r : R} {W0 : Base} :
    ∀ (c : Code) (s : St) (k : AEx → St → Option R) (E : Env) (a : Act) (w : World), exec P fns ann fuel c s k = some r → Sim W0 E s a w → c.wp P (Post k r W0) a w := by
  intro c
  induction c with
  | skip => intro s k E a w h hs; exact wp_skip ⟨s, E, h, hs⟩
  | label l => intro s k E a w h hs; exact wp_label ⟨s, E, h, hs⟩
  | exit id => intro s k E a w h hs; exact wp_exit ⟨s, E, h, hs⟩
  | ret => intro s k E a w h hs; exact wp_ret ⟨s, E, h, hs⟩
  | region id ops draw =>
    intro s k E a w h hs
    unfold exec at h
    split at h
    · rename_i ks _
      obtain ⟨E', h'⟩ := hs.norm ks
      exact region_ok hg hm h h'
    · exact region_ok hg hm h hs
  | seq x y ihx ihy =>
    intro s k E a w h hs
    refine wp_seq (wp_mono (ihx s _ E a w h hs) ?_)
    intro e a' w' hp
    cases e with
    | normal => obtain ⟨s', E', hk, h'⟩ := hp; exact ihy s' k E' a' w' hk h'
    | exit id => exact hp
    | ret => exact hp
    | goto l => exact hp
    | panic ch => exact hp
    | outgrown => exact hp
  | cond c x y ihx ihy =>
    intro s k E a w h hs
    unfold exec oif at h
    split at h
    · rename_i b hb
      have hc : a.eval c = .bool b := by have := hs.ev c; rw [hb] at this; exact this
      refine wp_cond hc ?_
      split at h
      · rename_i hbt
        rw [if_pos hbt]
        exact ihx s k E a w h hs
      · rename_i hbf
        rw [if_neg hbf]
        exact ihy s k E a w h hs
    · cases h
  | block id c ih =>
    intro s k E a w h hs
    refine wp_block (wp_mono (ih s _ E a w h hs) ?_)
    intro e a' w' hp
    cases e with
    | normal => exact hp
    | exit j =>
      obtain ⟨s', E', hk, h'⟩ := hp
      simp only [Exit.inBlock]
      cases hb : Nat.beq j id with
      | true =>
        simp only [hb, cond_true] at hk
        rw [if_pos (Nat.eq_of_beq_eq_true hb)]
        exact ⟨s', E', hk, h'⟩
      | false =>
        simp only [hb, cond_false] at hk
        rw [if_neg (fun e => by rw [e, Nat.beq_refl] at hb; cases hb)]
        exact ⟨s', E', hk, h'⟩
    | ret => exact hp
    | goto l => exact hp
    | panic ch => exact hp
    | outgrown => exact hp
  | loop c ih =>
    intro s k E a w h hs
    have key : ∀ (n : Nat) (s : St) (E : Env) (a : Act) (w : World), loopK n (exec P fns ann fuel c) (nmOf ann c) s k = some r → Sim W0 E s a w → Code.rounds P c (Post k r W0) n a w := by
      intro n
      induction n with
      | zero => intro s E a w h hs; cases h
      | succ n ihn =>
        intro s E a w h hs
        refine wp_mono (ih s _ E a w h hs) ?_
        intro e a' w' hp
        cases e with
        | normal => obtain ⟨s', E', hk, h'⟩ := hp; obtain ⟨E2, h2⟩ := nm_ok ann c h'; exact ihn _ E2 a' w' hk h2
        | exit id => exact hp
        | ret => exact hp
        | goto l => exact hp
        | panic ch => exact hp
        | outgrown => exact hp
    obtain ⟨E2, h2⟩ := nm_ok ann c hs
    exact wp_loop_rounds fuel (key fuel _ E2 a w h h2)
  | scope c ih =>
    intro s k E a w h hs
    refine wp_scope_straight (wp_mono (ih s k E a w h hs) ?_)
    intro e a' w' hp
    cases e <;> first | exact hp | exact hp.elim
  | _ => intro s k E a w h hs; cases h
/-- A piece of code within another one, and what goes on behind it ('ns': the rounds that are left of the loops around it). -/
def subC : List Nat → Code → Code
  | 0 :: p, .seq x _ => subC p x
  | _ :: p, .seq _ y => subC p y
  | 0 :: p, .cond _ x _ => subC p x
  | _ :: p, .cond _ _ y => subC p y
  | _ :: p, .block _ c => subC p c
  | _ :: p, .loop c => subC p c
  | _ :: p, .scope c => subC p c
  | _, c => c
def contC (P : Program) (fns : Fns) (ann : List (Nat × Ann)) (fuel : Nat) : List Nat → List Nat → Code → (AEx → St → Option R) → AEx → St → Option R
  | 0 :: p, ns, .seq x y, k => contC P fns ann fuel p ns x fun e s' => match e with
    | .normal => exec P fns ann fuel y s' k
    | e => k e s'
  | _ :: p, ns, .seq _ y, k => contC P fns ann fuel p ns y k
  | 0 :: p, ns, .cond _ x _, k => contC P fns ann fuel p ns x k
  | _ :: p, ns, .cond _ _ y, k => contC P fns ann fuel p ns y k
  | _ :: p, ns, .block id c, k => contC P fns ann fuel p ns c fun e s' => match e with
    | .exit j => bif Nat.beq j id then k .normal s' else k (.exit j) s'
    | e => k e s'
  | _ :: p, n :: ns, .loop c, k => contC P fns ann fuel p ns c fun e s' => match e with
    | .normal => loopK n (exec P fns ann fuel c) (nmOf ann c) (nmOf ann c s') k
    | e => k e s'
  | _ :: p, ns, .scope c, k => contC P fns ann fuel p ns c k
  | _, _, _, k => k
end
end Go.Vx
