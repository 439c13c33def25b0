/- Abstract states, and which acts and worlds they stand for. -/
import Derived.Test.YtcanekmlabehgaaVa
namespace Go.Vx
open Go.RowKit Go.Proofs.YtcanekmlabehgaaW.PrintWords
set_option linter.unusedVariables false
set_option linter.unusedSimpArgs false

/-- Abstract values. -/
inductive AV where
  | val (v : Value)
  | own (t : Nat)
  | sh (k : K) (xs : List k.T)
  | ptr (t off : Nat)
  | epo (t i sz off : Nat)
  | cp (cells : List AV)
  | agg (cells : List AV)
  | tup (cells : List AV)
  | fn (f : FuncId) (caps : List AV)
  | dead
/-- A row of the call's own. -/
structure Row where
  k : K
  T : TypeId
  fz : Bool
  xs : List k.T
inductive Ent where
  | row (r : Row)
  | box (T : TypeId) (cells : List AV)
structure St where
  tmps : List AV
  ents : List (Nat × Ent)
  nx : Nat
def nth : List AV → Nat → AV
  | [], _ => .dead
  | a :: _, 0 => a
  | _ :: l, n + 1 => nth l n
def setN : List AV → Nat → AV → List AV
  | [], _, _ => []
  | _ :: l, 0, x => x :: l
  | a :: l, n + 1, x => a :: setN l n x
def find : Nat → List (Nat × Ent) → Option Ent
  | _, [] => none
  | t, (u, e) :: l => bif Nat.beq t u then some e else find t l
def upd (t : Nat) (e : Ent) : List (Nat × Ent) → List (Nat × Ent)
  | [] => [(t, e)]
  | (u, d) :: l => bif Nat.beq t u then (u, e) :: l else (u, d) :: upd t e l
def del (t : Nat) : List (Nat × Ent) → List (Nat × Ent)
  | [] => []
  | (u, d) :: l => bif Nat.beq t u then del t l else (u, d) :: del t l
def St.put (s : St) (d : Option Tmp) (x : AV) : St :=
  match d with
  | some d => ⟨setN s.tmps d x, s.ents, s.nx⟩
  | none => s
theorem beq_ne {t u : Nat} (h : t ≠ u) : Nat.beq t u = false := by
  cases e : Nat.beq t u with
  | false => rfl
  | true => exact absurd (Nat.eq_of_beq_eq_true e) h
theorem find_upd (t u : Nat) (e : Ent) : ∀ l, find u (upd t e l) = if u = t then some e else find u l
  | [] => by
    by_cases h : u = t
    · subst h; simp [upd, find]
    · have : Nat.beq u t = false := beq_ne h
      simp [upd, find, this, h]
  | (x, d) :: l => by
    by_cases hx : t = x
    · subst hx
      by_cases h : u = t
      · subst h; simp [upd, find]
      · have : Nat.beq u t = false := beq_ne h
        simp [upd, find, this, h]
    · have hx' : Nat.beq t x = false := beq_ne hx
      simp only [upd, hx', cond_false, find]
      rw [find_upd t u e l]
      by_cases h : u = t
      · subst h; simp [hx']
      · simp [h]
theorem find_del (t u : Nat) : ∀ l, find u (del t l) = if u = t then none else find u l
  | [] => by simp [del, find]
  | (x, d) :: l => by
    by_cases hx : t = x
    · subst hx
      simp only [del, Nat.beq_refl, cond_true]
      rw [find_del t u l]
      by_cases h : u = t
      · simp [h]
      · have : Nat.beq u t = false := beq_ne h
        simp [find, this, h]
    · have hx' : Nat.beq t x = false := beq_ne hx
      simp only [del, hx', cond_false, find]
      rw [find_del t u l]
      by_cases h : u = t
      · subst h; simp [hx']
      · simp [h]
theorem nth_setN : ∀ (l : List AV) (d i : Nat) (x : AV), nth (setN l d x) i = if i = d ∧ d < l.length then x else nth l i
  | [], d, i, x => by simp [setN, nth]
  | a :: l, 0, 0, x => by simp [setN, nth]
  | a :: l, 0, i + 1, x => by simp [setN, nth]
  | a :: l, d + 1, 0, x => by simp [setN, nth]
  | a :: l, d + 1, i + 1, x => by
    simp only [setN, nth, List.length_cons]
    rw [nth_setN l d i x]
    simp
theorem setN_length : ∀ (l : List AV) (d : Nat) (x : AV), (setN l d x).length = l.length
  | [], _, _ => rfl
  | _ :: _, 0, _ => rfl
  | _ :: l, d + 1, x => by simp [setN, setN_length l d x]

def All2 {α β : Type} (R : α → β → Prop) : List α → List β → Prop
  | [], [] => True
  | a :: l, b :: m => R a b ∧ All2 R l m
  | _, _ => False
theorem All2.imp {α β : Type} {R S : α → β → Prop} (h : ∀ a b, R a b → S a b) : ∀ {l : List α} {m : List β}, All2 R l m → All2 S l m
  | [], [], _ => trivial
  | _ :: _, _ :: _, q => ⟨h _ _ q.1, All2.imp h q.2⟩
  | [], _ :: _, q => q.elim
  | _ :: _, [], q => q.elim
theorem All2.length {α β : Type} {R : α → β → Prop} : ∀ {l : List α} {m : List β}, All2 R l m → l.length = m.length
  | [], [], _ => rfl
  | _ :: _, _ :: _, q => by simp [All2.length q.2]
  | [], _ :: _, q => q.elim
  | _ :: _, [], q => q.elim
theorem All2.append {α β : Type} {R : α → β → Prop} : ∀ {l : List α} {m : List β} {l' : List α} {m' : List β}, All2 R l m → All2 R l' m' → All2 R (l ++ l') (m ++ m')
  | [], [], _, _, _, q => q
  | _ :: _, _ :: _, _, _, p, q => ⟨p.1, All2.append p.2 q⟩
  | [], _ :: _, _, _, p, _ => p.elim
  | _ :: _, [], _, _, p, _ => p.elim
theorem All2.drop {α β : Type} {R : α → β → Prop} : ∀ {l : List α} {m : List β} (n : Nat), All2 R l m → All2 R (l.drop n) (m.drop n)
  | [], [], n, _ => by simp [All2]
  | _ :: _, _ :: _, 0, q => q
  | _ :: _, _ :: _, n + 1, q => All2.drop n q.2
  | [], _ :: _, _, q => q.elim
  | _ :: _, [], _, q => q.elim
theorem All2.take {α β : Type} {R : α → β → Prop} : ∀ {l : List α} {m : List β} (n : Nat), All2 R l m → All2 R (l.take n) (m.take n)
  | [], [], n, _ => by simp [All2]
  | _ :: _, _ :: _, 0, q => trivial
  | _ :: _, _ :: _, n + 1, q => ⟨q.1, All2.take n q.2⟩
  | [], _ :: _, _, q => q.elim
  | _ :: _, [], _, q => q.elim
theorem All2.nth {β : Type} {R : AV → β → Prop} : ∀ {l : List AV} {m : List β} {i : Nat}, All2 R l m → i < l.length → ∃ b, m[i]? = some b ∧ R (nth l i) b
  | _ :: _, b :: _, 0, q, _ => ⟨b, rfl, q.1⟩
  | _ :: _, _ :: _, i + 1, q, h => by simpa [Vx.nth] using All2.nth (i := i) q.2 (by simpa using h)
  | [], [], _, _, h => absurd h (by simp)
  | [], _ :: _, _, q, _ => q.elim
  | _ :: _, [], _, q, _ => q.elim
theorem All2.map {α : Type} {R : AV → Value → Prop} (f : α → AV) (g : α → Value) (h : ∀ a, R (f a) (g a)) : ∀ l : List α, All2 R (l.map f) (l.map g)
  | [] => trivial
  | a :: l => ⟨h a, All2.map f g h l⟩

/-- What the tags stand for, which blocks are never written any more, and which tags are used. -/
structure Env where
  vs : Nat → Value
  F : Nat → Prop
  U : Nat → Prop
/-- One cell's abstract value, first without function values. -/
def VA (E : Env) (w : World) : AV → Value → Prop
  | .val v, u => u = v
  | .own t, u => E.U t ∧ u = E.vs t
  | .sh k xs, u => Rd w E.F (.slice k) xs [u]
  | .ptr t off, u => E.U t ∧ ∃ b, E.vs t = .pointer (some ⟨b, 0, none⟩) ∧ u = .pointer (some ⟨b, off, none⟩)
  | .epo t i sz off, u => E.U t ∧ ∃ g n c, E.vs t = .slice (some ⟨g, 0, none⟩) n c ∧ i < n ∧ u = .pointer (some ⟨g, i * sz + off, none⟩)
  | .dead, _ => True
  | _, _ => False
def VB (E : Env) (w : World) : AV → Value → Prop
  | .fn f caps, u => ∃ vals : List Value, u = .func (.func f) #[] vals.toArray ∧ All2 (VA E w) caps vals
  | av, u => VA E w av u
def VC (E : Env) (w : World) : AV → Value → Prop
  | .agg cells, u => ∃ vals : List Value, u = .agg vals.toArray ∧ All2 (VB E w) cells vals
  | .cp cells, u => ∃ (ad : Addr) (vals : List Value), u = .pointer (some ad) ∧ E.F ad.block ∧ All2 (VB E w) cells vals ∧ ∀ (j : Nat) (v : Value), vals[j]? = some v → w.cell? (ad.add j) = some v
  | av, u => VB E w av u
def VR (E : Env) (w : World) : AV → Value → Prop
  | .tup cells, u => ∃ vals : List Value, u = .tuple vals.toArray ∧ All2 (VC E w) cells vals
  | av, u => VC E w av u
/-- What may change. -/
structure Stp (E : Env) (w : World) (E' : Env) (w' : World) : Prop where
  vs : ∀ t, E.U t → E'.vs t = E.vs t
  U : ∀ t, E.U t → E'.U t
  F : ∀ b, E.F b → E'.F b
  mem : ∀ b, E.F b → w'.heap[b]? = w.heap[b]?
theorem Stp.refl (E : Env) (w : World) : Stp E w E w := ⟨fun _ _ => rfl, fun _ h => h, fun _ h => h, fun _ _ => rfl⟩
theorem Stp.trans {E E1 E2 : Env} {w w1 w2 : World} (h : Stp E w E1 w1) (k : Stp E1 w1 E2 w2) : Stp E w E2 w2 :=
  ⟨fun t ht => (k.vs t (h.U t ht)).trans (h.vs t ht), fun t ht => k.U t (h.U t ht), fun b hb => k.F b (h.F b hb), fun b hb => (k.mem b (h.F b hb)).trans (h.mem b hb)⟩
section
variable {E E' : Env} {w w' : World}
theorem VA.step (st : Stp E w E' w') : ∀ {av : AV} {u : Value}, VA E w av u → VA E' w' av u := by
  intro av u h
  cases av with
  | val v => exact h
  | own t => exact ⟨st.U t h.1, by rw [st.vs t h.1]; exact h.2⟩
  | sh k xs => exact Rd.step (k := .slice k) st.mem st.F h
  | ptr t off => exact ⟨st.U t h.1, by rw [st.vs t h.1]; exact h.2⟩
  | epo t i sz off => exact ⟨st.U t h.1, by rw [st.vs t h.1]; exact h.2⟩
  | dead => trivial
  | cp _ => exact h
  | agg _ => exact h
  | tup _ => exact h
  | fn _ _ => exact h
theorem VB.step (st : Stp E w E' w') : ∀ {av : AV} {u : Value}, VB E w av u → VB E' w' av u := by
  intro av u h
  cases av with
  | fn f caps =>
    obtain ⟨vals, e, hc⟩ := h
    exact ⟨vals, e, hc.imp fun _ _ q => VA.step st q⟩
  | val v => exact VA.step st (av := .val v) h
  | own t => exact VA.step st (av := .own t) h
  | sh k xs => exact VA.step st (av := .sh k xs) h
  | ptr t off => exact VA.step st (av := .ptr t off) h
  | epo t i sz off => exact VA.step st (av := .epo t i sz off) h
  | dead => trivial
  | cp _ => exact h
  | agg _ => exact h
  | tup _ => exact h
theorem VC.step (st : Stp E w E' w') : ∀ {av : AV} {u : Value}, VC E w av u → VC E' w' av u := by
  intro av u h
  cases av with
  | agg cells =>
    obtain ⟨vals, e, hc⟩ := h
    exact ⟨vals, e, hc.imp fun _ _ q => VB.step st q⟩
  | cp cells =>
    obtain ⟨ad, vals, e, hf, hc, hm⟩ := h
    exact ⟨ad, vals, e, st.F _ hf, hc.imp fun _ _ q => VB.step st q, fun j v hj => cell_same (by rw [add_block]; exact st.mem _ hf) (hm j v hj)⟩
  | fn f caps => exact VB.step st (av := .fn f caps) h
  | val v => exact VB.step st (av := .val v) h
  | own t => exact VB.step st (av := .own t) h
  | sh k xs => exact VB.step st (av := .sh k xs) h
  | ptr t off => exact VB.step st (av := .ptr t off) h
  | epo t i sz off => exact VB.step st (av := .epo t i sz off) h
  | dead => trivial
  | tup _ => exact h
theorem VR.step (st : Stp E w E' w') : ∀ {av : AV} {u : Value}, VR E w av u → VR E' w' av u := by
  intro av u h
  cases av with
  | tup cells =>
    obtain ⟨vals, e, hc⟩ := h
    exact ⟨vals, e, hc.imp fun _ _ q => VC.step st q⟩
  | agg cells => exact VC.step st (av := .agg cells) h
  | cp cells => exact VC.step st (av := .cp cells) h
  | fn f caps => exact VC.step st (av := .fn f caps) h
  | val v => exact VC.step st (av := .val v) h
  | own t => exact VC.step st (av := .own t) h
  | sh k xs => exact VC.step st (av := .sh k xs) h
  | ptr t off => exact VC.step st (av := .ptr t off) h
  | epo t i sz off => exact VC.step st (av := .epo t i sz off) h
  | dead => trivial
theorem VB.c {av : AV} {u : Value} (h : VB E w av u) : VC E w av u := by
  cases av <;> first | exact h | exact h.elim
theorem VC.r {av : AV} {u : Value} (h : VC E w av u) : VR E w av u := by
  cases av <;> first | exact h | exact h.elim
theorem VB.r {av : AV} {u : Value} (h : VB E w av u) : VR E w av u := h.c.r
end
def blk : Value → Option Nat
  | .slice (some a) _ _ => some a.block
  | .pointer (some a) => some a.block
  | _ => none
/-- The world of the call's begin, and what the arguments lie in. -/
structure Base where
  W : World
  Z : Nat → Prop
def EntOK (W0 : Base) (E : Env) (w : World) (v : Value) : Ent → Prop
  | .row r => (∃ cells, w.ownsRow W0.W.heap.size r.T r.k.sz v (List.length r.xs) cells ∧ Reps (Rd w E.F r.k) r.k.sz r.xs cells) ∧ ∀ b, blk v = some b → (E.F b ↔ r.fz = true)
  | .box T cells => ∃ (b : Nat) (vals : Array Value), v = .pointer (some ⟨b, 0, none⟩) ∧ W0.W.heap.size ≤ b ∧ ¬ E.F b ∧ w.heap[b]? = some (.cells vals T (0, 0)) ∧ All2 (VB E w) cells vals.toList
structure SimS (W0 : Base) (E : Env) (s : St) (w : World) : Prop where
  below : Below W0.W.heap.size W0.W w
  fz : ∀ b, E.F b → b < w.heap.size
  old : ∀ b, E.F b → W0.Z b ∨ W0.W.heap.size ≤ b
  used : ∀ t, E.U t → t < s.nx
  ents : ∀ t e, find t s.ents = some e → E.U t ∧ EntOK W0 E w (E.vs t) e
  apart : ∀ t t' e e' b, t ≠ t' → find t s.ents = some e → find t' s.ents = some e' → blk (E.vs t) = some b → blk (E.vs t') = some b → False
structure Sim (W0 : Base) (E : Env) (s : St) (a : Act) (w : World) : Prop extends SimS W0 E s w where
  defers : a.defers = []
  tl : a.tmps.size = s.tmps.length
  slots : ∀ i, VR E w (nth s.tmps i) (a.tmps.getD i undef)
theorem own_blk {w : World} {base : Nat} {e : TypeId} {size n : Nat} {v : Value} {xs : List Value} (h : w.ownsRow base e size v n xs) : blk v = v.ownBlock := by
  rcases h.2 with ⟨rfl, _⟩ | ⟨g, cap, cur, rfl, _⟩ <;> rfl
theorem EntOK.blk_lt {W0 : Base} {E : Env} {w : World} {v : Value} {e : Ent} (h : EntOK W0 E w v e) {b : Nat} (hb : blk v = some b) : W0.W.heap.size ≤ b ∧ b < w.heap.size := by
  cases e with
  | row r =>
    obtain ⟨⟨cells, ho, _⟩, _⟩ := h
    rw [own_blk ho] at hb
    exact ⟨own_base ho b hb, own_lt ho b hb⟩
  | box T cells =>
    obtain ⟨g, vals, rfl, h0, _, hg, _⟩ := h
    obtain rfl : g = b := by simpa [blk] using hb
    exact ⟨h0, Go.Proofs.YtcanekmlabehgaaW.PrintWords.blk_lt hg⟩
theorem EntOK.step {W0 : Base} {E E' : Env} {w w' : World} {v : Value} {e : Ent} (st : Stp E w E' w') (hm : ∀ b, blk v = some b → w'.heap[b]? = w.heap[b]? ∧ (E'.F b → E.F b)) (h : EntOK W0 E w v e) : EntOK W0 E' w' v e := by
  cases e with
  | row r =>
    obtain ⟨⟨cells, ho, hr⟩, hf⟩ := h
    refine ⟨⟨cells, own_move ho (fun k hk => (hm k (by rw [own_blk ho]; exact hk)).1), hr.imp_ fun _ _ q => Rd.step st.mem st.F q⟩, fun b hb => ?_⟩
    exact ⟨fun q => (hf b hb).1 ((hm b hb).2 q), fun q => st.F _ ((hf b hb).2 q)⟩
  | box T cells =>
    obtain ⟨b, vals, rfl, h0, hF, hg, hc⟩ := h
    obtain ⟨m1, m2⟩ := hm b rfl
    exact ⟨b, vals, rfl, h0, fun q => hF (m2 q), m1.trans hg, hc.imp fun _ _ q => VB.step st q⟩
theorem SimS.turn {W0 : Base} {E E' : Env} {s s' : St} {w w' : World} (h : SimS W0 E s w) (st : Stp E w E' w') (below : Below W0.W.heap.size W0.W w') (fz : ∀ b, E'.F b → b < w'.heap.size) (old : ∀ b, E'.F b → W0.Z b ∨ W0.W.heap.size ≤ b) (used : ∀ t, E'.U t → t < s'.nx)
    (ents : ∀ t e, find t s'.ents = some e → (find t s.ents = some e ∧ ∀ b, blk (E.vs t) = some b → w'.heap[b]? = w.heap[b]? ∧ (E'.F b → E.F b)) ∨ (E'.U t ∧ EntOK W0 E' w' (E'.vs t) e))
    (apart : ∀ t t' e e' b, t ≠ t' → find t s'.ents = some e → find t' s'.ents = some e' → blk (E'.vs t) = some b → blk (E'.vs t') = some b → False) : SimS W0 E' s' w' :=
  ⟨below, fz, old, used, fun t e ht => by
    rcases ents t e ht with ⟨h1, h2⟩ | h1
    · obtain ⟨u, hk⟩ := h.ents t e h1
      refine ⟨st.U t u, ?_⟩
      rw [st.vs t u]
      exact hk.step st h2
    · exact h1, apart⟩
theorem put_getD (a : Act) (d i : Nat) (v : Value) : (a.put (some d) v).tmps.getD i undef = if i = d ∧ d < a.tmps.size then v else a.tmps.getD i undef := by
  simp only [Act.put, Array.getD_eq_getD_getElem?]
  by_cases h : i = d
  · subst h
    by_cases hl : i < a.tmps.size
    · simp [hl]
    · simp [hl, Array.getElem?_eq_none (Nat.le_of_not_lt hl)]
  · rw [if_neg (fun q => h q.1), Array.getElem?_setIfInBounds_ne (Ne.symm h)]
/-- Putting a value into a slot. -/
theorem Sim.put {W0 : Base} {E : Env} {s : St} {a : Act} {w : World} (h : Sim W0 E s a w) (d : Option Tmp) {av : AV} {v : Value} (hv : VR E w av v) : Sim W0 E (s.put d av) (a.put d v) w := by
  cases d with
  | none => exact h
  | some d =>
    refine ⟨⟨h.below, h.fz, h.old, h.used, h.ents, h.apart⟩, h.defers, ?_, fun i => ?_⟩
    · show (a.tmps.setIfInBounds d v).size = (setN s.tmps d av).length
      rw [setN_length, Array.size_setIfInBounds]; exact h.tl
    · rw [put_getD]
      show VR E w (nth (setN s.tmps d av) i) _
      rw [nth_setN, h.tl]
      by_cases q : i = d ∧ d < s.tmps.length
      · rw [if_pos q, if_pos q]; exact hv
      · rw [if_neg q, if_neg q]; exact h.slots i
/-- The store turns; the slots stay. -/
theorem Sim.turn {W0 : Base} {E E' : Env} {s s' : St} {a : Act} {w w' : World} (h : Sim W0 E s a w) (st : Stp E w E' w') (hs : SimS W0 E' s' w') (ht : s'.tmps = s.tmps) : Sim W0 E' s' a w' :=
  ⟨hs, h.defers, by rw [ht]; exact h.tl, fun i => by rw [ht]; exact (h.slots i).step st⟩
/-- Nothing of the abstract memory turns: only the world goes on. -/
theorem Sim.below' {W0 : Base} {E : Env} {s : St} {a : Act} {w w' : World} (h : Sim W0 E s a w) (hb : Below w.heap.size w w') : Sim W0 E s a w' := by
  have st : Stp E w E w' := ⟨fun _ _ => rfl, fun _ q => q, fun _ q => q, fun b hF => hb.block b (h.fz b hF)⟩
  refine h.turn st ?_ rfl
  refine h.toSimS.turn st (below_then h.below h.below.size hb) (fun b hF => Nat.lt_of_lt_of_le (h.fz b hF) hb.size) h.old h.used (fun t e ht => .inl ⟨ht, fun b hbk => ?_⟩) h.apart
  obtain ⟨_, hok⟩ := h.ents t e ht
  exact ⟨hb.block b (hok.blk_lt hbk).2, fun q => q⟩
def St.add (s : St) (e : Ent) : St := ⟨s.tmps, (s.nx, e) :: s.ents, s.nx + 1⟩
def Env.add (E : Env) (n : Nat) (v : Value) (F : Nat → Prop) : Env := ⟨fun t => if t = n then v else E.vs t, F, fun t => E.U t ∨ t = n⟩
theorem Env.add_new (E : Env) (n : Nat) (v : Value) (F : Nat → Prop) : (E.add n v F).vs n = v := by simp [Env.add]
theorem Stp.add {E : Env} {w w' : World} {n : Nat} {v : Value} {F : Nat → Prop} (hn : ¬ E.U n) (hF : ∀ b, E.F b → F b) (hm : ∀ b, E.F b → w'.heap[b]? = w.heap[b]?) : Stp E w (E.add n v F) w' :=
  ⟨fun t ht => by simp only [Env.add]; rw [if_neg (fun e : t = n => hn (by rw [← e]; exact ht))], fun _ h => .inl h, hF, hm⟩
/-- A new thing in memory. -/
theorem Sim.fresh {W0 : Base} {E : Env} {s : St} {a : Act} {w w' : World} (h : Sim W0 E s a w) {e : Ent} {v : Value} {F : Nat → Prop} (hb : Below w.heap.size w w') (hF : ∀ b, E.F b → F b) (hF2 : ∀ b, F b → b < w'.heap.size ∧ (E.F b ∨ w.heap.size ≤ b))
    (hok : EntOK W0 (E.add s.nx v F) w' v e) (hnew : ∀ b, blk v = some b → w.heap.size ≤ b) : Sim W0 (E.add s.nx v F) (s.add e) a w' := by
  have hn : ¬ E.U s.nx := fun q => Nat.lt_irrefl _ (h.used _ q)
  have st : Stp E w (E.add s.nx v F) w' := Stp.add hn hF (fun b q => hb.block b (h.fz b q))
  refine h.turn st ?_ rfl
  refine h.toSimS.turn st (below_then h.below h.below.size hb) (fun b q => (hF2 b q).1) (fun b q => ?_) ?_ ?_ ?_
  · rcases (hF2 b q).2 with q | q
    · exact h.old b q
    · have := h.below.size; exact .inr (by omega)
  · intro t ht
    rcases ht with ht | rfl
    · exact Nat.lt_succ_of_lt (h.used t ht)
    · exact Nat.lt_succ_self _
  · intro t e' ht
    simp only [St.add, find] at ht
    by_cases q : t = s.nx
    · subst q
      simp only [Nat.beq_refl, cond_true] at ht
      obtain rfl := Option.some.inj ht
      exact .inr ⟨.inr rfl, by rw [Env.add_new]; exact hok⟩
    · rw [beq_ne q] at ht
      refine .inl ⟨ht, fun b hbk => ?_⟩
      obtain ⟨_, hk⟩ := h.ents t e' ht
      have hlt := (hk.blk_lt hbk).2
      refine ⟨hb.block b hlt, fun q => ?_⟩
      rcases (hF2 b q).2 with q | q
      · exact q
      · omega
  · intro t t' e1 e2 b hne h1 h2 hb1 hb2
    simp only [St.add, find] at h1 h2
    by_cases q1 : t = s.nx
    · have q2 : t' ≠ s.nx := fun e => hne (q1.trans e.symm)
      rw [beq_ne q2] at h2
      obtain ⟨_, hk⟩ := h.ents t' e2 h2
      simp only [Env.add] at hb1 hb2
      rw [if_pos q1] at hb1
      rw [if_neg q2] at hb2
      have := hnew b hb1
      have := (hk.blk_lt hb2).2
      omega
    · rw [beq_ne q1] at h1
      obtain ⟨_, hk⟩ := h.ents t e1 h1
      simp only [Env.add] at hb1 hb2
      rw [if_neg q1] at hb1
      by_cases q2 : t' = s.nx
      · rw [if_pos q2] at hb2
        have := hnew b hb2
        have := (hk.blk_lt hb1).2
        omega
      · rw [if_neg q2] at hb2
        rw [beq_ne q2] at h2
        exact h.apart t t' e1 e2 b hne h1 h2 hb1 hb2
end Go.Vx
