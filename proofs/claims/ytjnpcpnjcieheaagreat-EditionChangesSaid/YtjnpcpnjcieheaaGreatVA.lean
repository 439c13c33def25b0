/- An executor on abstract states, proved sound once (part VA). -/
import Derived.Test.YtjnpcpnjcieheaaGreatWWords
import Derived.Test.YtjnpcpnjcieheaaGreatWShare
import Derived.KernelRfl
import Derived.Deep.Quiet
import Derived.Laws.Tables
import Derived.Laws.Cells
import Derived.Laws.Entries
import Derived.Laws.NewBlocks
import Derived.Laws.Slices
import Derived.MapKept
import Derived.Laws.StructEq
import Derived.Laws.CopyRow
import Derived.Laws.MakeOwn
import Derived.Maps.AppendAt
namespace Go.Vx
open Go.RowKit Go.Proofs.YtjnpcpnjcieheaaGreatW.PrintWords
set_option linter.unusedVariables false
set_option linter.unusedSimpArgs false
inductive K where
 | int (k : IntKind)
 | bool
 | str
 | slice (e : K)
 | pair (a b : K)
 | unit
def K.T : K → Type
 | .int _ => Int
 | .bool => Bool
 | .str => ByteArray
 | .slice e => List e.T
 | .pair a b => a.T × b.T
 | .unit => Unit
def K.sz : K → Nat
 | .pair a b => a.sz + b.sz
 | .unit => 0
 | _ => 1
def K.dflt : (k : K) → k.T
 | .int _ => (0 : Int)
 | .bool => false
 | .str => ByteArray.empty
 | .slice e => ([] : List e.T)
 | .pair a b => (a.dflt, b.dflt)
 | .unit => ()
def K.same : (a b : K) → Option (PLift (a = b))
 | .int k, .int l => if h : k = l then some ⟨by rw [h]⟩ else none
 | .bool, .bool => some ⟨rfl⟩
 | .str, .str => some ⟨rfl⟩
 | .slice a, .slice b => match K.same a b with
  | some h => some ⟨by rw [h.down]⟩
  | none => none
 | .pair a b, .pair c d => match K.same a c, K.same b d with
  | some h, some g => some ⟨by rw [h.down, g.down]⟩
  | _, _ => none
 | .unit, .unit => some ⟨rfl⟩
 | _, _ => none
def K.cast (a b : K) (x : a.T) : Option b.T :=
 match K.same a b with
 | some h => some (h.down ▸ x)
 | none => none
theorem K.cast_eq {a b : K} {x : a.T} {y : b.T} (h : K.cast a b x = some y) : ∃ e : a = b, e ▸ x = y := by
 unfold K.cast at h
 split at h
 ·rename_i p _
  exact ⟨p.down, Option.some.inj h⟩
 ·cases h
def Rd (w : World) (F : Nat → Prop) : (k : K) → k.T → List Value → Prop
 | .int k, x, cs => cs = [.int k x]
 | .bool, x, cs => cs = [.bool x]
 | .str, x, cs => cs = [.string x]
 | .slice e, xs, cs => ∃ A c, cs = [.slice A (List.length xs) c] ∧ List.length xs ≤ c ∧ ReadsRow (Rd w F e) e.sz w A (List.length xs) xs ∧ (0 < List.length xs → ∀ ad, A = some ad → F ad.block)
 | .pair a b, x, cs => ∃ c0 c1, cs = c0 ++ c1 ∧ Rd w F a x.1 c0 ∧ Rd w F b x.2 c1
 | .unit, _, cs => cs = []
theorem Rd.len {w : World} {F : Nat → Prop} : ∀ {k : K} {x : k.T} {cs : List Value}, Rd w F k x cs → cs.length = k.sz
 | .int _, _, _, h => by rw [show _ = _ from h]; rfl
 | .bool, _, _, h => by rw [show _ = _ from h]; rfl
 | .str, _, _, h => by rw [show _ = _ from h]; rfl
 | .slice _, _, _, h => by obtain ⟨A, c, rfl, _⟩ := h; rfl
 | .pair a b, _, _, h => by
  obtain ⟨c0, c1, rfl, h0, h1⟩ := h
  rw [List.length_append, Rd.len h0, Rd.len h1]; rfl
 | .unit, _, _, h => by rw [show _ = _ from h]; rfl
theorem Rd.one {w : World} {F : Nat → Prop} : ∀ {k : K} {x : k.T} {cs : List Value}, Rd w F k x cs → ∀ u ∈ cs, u.oneCell' = true
 | .int _, _, _, h, u, hu => by rw [show _ = _ from h] at hu; rw [List.mem_singleton.1 hu]; rfl
 | .bool, _, _, h, u, hu => by rw [show _ = _ from h] at hu; rw [List.mem_singleton.1 hu]; rfl
 | .str, _, _, h, u, hu => by rw [show _ = _ from h] at hu; rw [List.mem_singleton.1 hu]; rfl
 | .slice _, _, _, h, u, hu => by obtain ⟨A, c, rfl, _⟩ := h; rw [List.mem_singleton.1 hu]; rfl
 | .pair a b, _, _, h, u, hu => by
  obtain ⟨c0, c1, rfl, h0, h1⟩ := h
  rcases List.mem_append.1 hu with q | q
  ·exact Rd.one h0 u q
  ·exact Rd.one h1 u q
 | .unit, _, _, h, u, hu => by rw [show _ = _ from h] at hu; cases hu
theorem cell_same {w w' : World} {ad : Addr} {v : Value} (h : w'.heap[ad.block]? = w.heap[ad.block]?) (hc : w.cell? ad = some v) : w'.cell? ad = some v := by
 simpa [World.cell?, h] using hc
theorem add_block (ad : Addr) (n : Nat) : (ad.add n).block = ad.block := by unfold Addr.add; split <;> rfl
theorem Rd.step {w w' : World} {F F' : Nat → Prop} (hm : ∀ b, F b → w'.heap[b]? = w.heap[b]?) (hF : ∀ b, F b → F' b) : ∀ {k : K} {x : k.T} {cs : List Value}, Rd w F k x cs → Rd w' F' k x cs
 | .int _, _, _, h => h
 | .bool, _, _, h => h
 | .str, _, _, h => h
 | .slice e, xs, _, h => by
  obtain ⟨A, c, rfl, hc, hr, hf⟩ := h
  refine ⟨A, c, rfl, hc, ⟨hr.1, hr.2.1, fun hn => ?_⟩, fun hn ad ha => hF _ (hf hn ad ha)⟩
  obtain ⟨ad, ha, hcells⟩ := hr.2.2 hn
  refine ⟨ad, ha, fun j p hj => ?_⟩
  obtain ⟨cl, hs, hp, hcell⟩ := hcells j p hj
  exact ⟨cl, hs, Rd.step hm hF hp, fun i u hu => cell_same (by rw [add_block]; exact hm _ (hf hn ad ha)) (hcell i u hu)⟩
 | .pair a b, _, _, h => by
  obtain ⟨c0, c1, rfl, h0, h1⟩ := h
  exact ⟨c0, c1, rfl, Rd.step hm hF h0, Rd.step hm hF h1⟩
 | .unit, _, _, h => h
def K.kd : (k : K) → Kd k.T
 | .int k => Kd.int k
 | .bool => Kd.bool
 | .str => Kd.string
 | .slice e => Kd.slice 0 e.kd
 | .pair a b => Kd.pair a.kd b.kd
 | .unit => { sz := 0, E := [], K := fun _ _ cs => cs = [], M := fun _ _ _ _ cs => cs = [], K_len := fun h => (by rw [h]; rfl), K_one := fun h u hu => (by rw [h] at hu; cases hu), K_below := fun _ h => h, K_of_M := fun h => h, M_mono := fun _ h => h, M_bound := fun h => h, M_move := fun _ h => h, M_lower := fun _ h => h }
theorem K.kd_sz : ∀ k : K, k.kd.sz = k.sz
 | .int _ => rfl
 | .bool => rfl
 | .str => rfl
 | .slice _ => rfl
 | .pair a b => by show a.kd.sz + b.kd.sz = a.sz + b.sz; rw [K.kd_sz a, K.kd_sz b]
 | .unit => rfl
theorem Rd.kd {w : World} {F : Nat → Prop} : ∀ {k : K} {x : k.T} {cs : List Value}, Rd w F k x cs → k.kd.K w x cs
 | .int _, _, _, h => h
 | .bool, _, _, h => h
 | .str, _, _, h => h
 | .slice e, xs, _, h => by
  obtain ⟨A, c, rfl, hc, hr, hf⟩ := h
  refine ⟨A, c, rfl, hc, hr.1, hr.2.1, fun hn => ?_⟩
  obtain ⟨ad, ha, hcells⟩ := hr.2.2 hn
  refine ⟨ad, ha, fun j p hj => ?_⟩
  obtain ⟨cl, hs, hp, hcell⟩ := hcells j p hj
  exact ⟨cl, by rw [K.kd_sz]; exact hs, Rd.kd hp, fun i u hu => by rw [K.kd_sz]; exact hcell i u hu⟩
 | .pair a b, _, _, h => by
  obtain ⟨c0, c1, rfl, h0, h1⟩ := h
  exact ⟨c0, c1, rfl, Rd.kd h0, Rd.kd h1⟩
 | .unit, _, _, h => h
theorem head_get {α : Type} (d : α) (xs : List α) (h : 0 < xs.length) : xs[0]? = some (xs.getD 0 d) := by
 cases xs with
 | nil => simp at h
 | cons a l => rfl
def K.ok : K → Bool
 | .slice e => decide (0 < e.sz) && e.ok
 | .pair a b => a.ok && b.ok
 | _ => true
theorem Rd.of_kd {w : World} : ∀ {k : K} {x : k.T} {cs : List Value}, k.ok = true → k.kd.K w x cs → Rd w (fun b => b < w.heap.size) k x cs
 | .int _, _, _, _, h => h
 | .bool, _, _, _, h => h
 | .str, _, _, _, h => h
 | .slice e, xs, _, hk, h => by
  obtain ⟨A, c, rfl, hc, hr⟩ := h
  simp only [K.ok, Bool.and_eq_true, decide_eq_true_eq] at hk
  have h2 := hr.2.2
  simp only [K.kd_sz] at h2
  refine ⟨A, c, rfl, hc, ⟨hr.1, hr.2.1, fun hn => ?_⟩, fun hn ad ha => ?_⟩
  ·obtain ⟨ad, ha, hcells⟩ := h2 hn
   refine ⟨ad, ha, fun j p hj => ?_⟩
   obtain ⟨cl, hs, hp, hcell⟩ := hcells j p hj
   exact ⟨cl, hs, Rd.of_kd hk.2 hp, hcell⟩
  ·obtain ⟨ad', ha', hcells⟩ := h2 hn
   obtain rfl : ad' = ad := Option.some.inj (ha'.symm.trans ha)
   obtain ⟨cl, hs, hp, hcell⟩ := hcells 0 (List.getD xs 0 e.dflt) (head_get (α := e.T) e.dflt xs hn)
   have hl : 0 < cl.length := by omega
   have := World.block_lt_of_cell? w _ (hcell 0 cl[0] (List.getElem?_eq_getElem hl))
   rwa [add_block] at this
 | .pair a b, _, _, hk, h => by
  obtain ⟨c0, c1, rfl, h0, h1⟩ := h
  simp only [K.ok, Bool.and_eq_true] at hk
  exact ⟨c0, c1, rfl, Rd.of_kd hk.1 h0, Rd.of_kd hk.2 h1⟩
 | .unit, _, _, _, h => h
end Go.Vx
namespace Go.Vx
open Go.RowKit Go.Proofs.YtjnpcpnjcieheaaGreatW.PrintWords
set_option linter.unusedVariables false
set_option linter.unusedSimpArgs false
inductive AV where
 | val (v : Value)
 | own (t : Nat)
 | sh (k : K) (xs : List k.T)
 | ptr (t off : Nat)
 | epo (t i sz off : Nat)
 | cp (cells : List AV)
 | cs (n z : Nat) (cells : List AV)
 | agg (cells : List AV)
 | tup (cells : List AV)
 | fn (f : FuncId) (caps : List AV)
 | bm (f : FuncId) (pre : List AV)
 | dead
structure Row where
 k : K
 T : TypeId
 fz : Bool
 xs : List k.T
inductive Ent where
 | row (r : Row)
 | box (T : TypeId) (cells : List AV)
 | mp (kd vd : IntKind) (l : List (Int × Int))
 | ghost (d : Nat) (cells : List AV)
structure St where
 tmps : List AV
 ents : List (Nat × Ent)
 nx : Nat
noncomputable def nth (l : List AV) : Nat → AV :=
 List.rec (motive := fun _ => Nat → AV) (fun _ => .dead) (fun a _ ih n => Nat.rec (motive := fun _ => AV) a (fun m _ => ih m) n) l
theorem nth_nil (i : Nat) : nth [] i = .dead := rfl
theorem nth_zero (a : AV) (l : List AV) : nth (a :: l) 0 = a := rfl
theorem nth_succ (a : AV) (l : List AV) (i : Nat) : nth (a :: l) (i + 1) = nth l i := rfl
noncomputable def setN (l : List AV) : Nat → AV → List AV :=
 List.rec (motive := fun _ => Nat → AV → List AV) (fun _ _ => []) (fun a l ih n x => Nat.rec (motive := fun _ => List AV) (x :: l) (fun m _ => a :: ih m x) n) l
theorem setN_nil (i : Nat) (x : AV) : setN [] i x = [] := rfl
theorem setN_zero (a : AV) (l : List AV) (x : AV) : setN (a :: l) 0 x = x :: l := rfl
theorem setN_succ (a : AV) (l : List AV) (i : Nat) (x : AV) : setN (a :: l) (i + 1) x = a :: setN l i x := rfl
def find : Nat → List (Nat × Ent) → Option Ent
 | _, [] => none
 | t, (u, e) :: l => bif Nat.beq t u then some e else find t l
def upd (t : Nat) (e : Ent) : List (Nat × Ent) → List (Nat × Ent)
 | [] => [(t, e)]
 | (u, d) :: l => bif Nat.beq t u then (u, e) :: l else (u, d) :: upd t e l
def del (t : Nat) : List (Nat × Ent) → List (Nat × Ent)
 | [] => []
 | (u, d) :: l => bif Nat.beq t u then del t l else (u, d) :: del t l
noncomputable def St.put (s : St) (d : Option Tmp) (x : AV) : St :=
 match d with
 | some d => ⟨setN s.tmps d x, s.ents, s.nx⟩
 | none => s
theorem beq_ne {t u : Nat} (h : t ≠ u) : Nat.beq t u = false := by
 cases e : Nat.beq t u with
 | false => rfl
 | true => exact absurd (Nat.eq_of_beq_eq_true e) h
theorem find_upd (t u : Nat) (e : Ent) : ∀ l, find u (upd t e l) = if u = t then some e else find u l
 | [] => by
  by_cases h : u = t
  ·subst h; simp [upd, find]
  ·have : Nat.beq u t = false := beq_ne h
   simp [upd, find, this, h]
 | (x, d) :: l => by
  by_cases hx : t = x
  ·subst hx
   by_cases h : u = t
   ·subst h; simp [upd, find]
   ·have : Nat.beq u t = false := beq_ne h
    simp [upd, find, this, h]
  ·have hx' : Nat.beq t x = false := beq_ne hx
   simp only [upd, hx', cond_false, find]
   rw [find_upd t u e l]
   by_cases h : u = t
   ·subst h; simp [hx']
   ·simp [h]
theorem find_del (t u : Nat) : ∀ l, find u (del t l) = if u = t then none else find u l
 | [] => by simp [del, find]
 | (x, d) :: l => by
  by_cases hx : t = x
  ·subst hx
   simp only [del, Nat.beq_refl, cond_true]
   rw [find_del t u l]
   by_cases h : u = t
   ·simp [h]
   ·have : Nat.beq u t = false := beq_ne h
    simp [find, this, h]
  ·have hx' : Nat.beq t x = false := beq_ne hx
   simp only [del, hx', cond_false, find]
   rw [find_del t u l]
   by_cases h : u = t
   ·subst h; simp [hx']
   ·simp [h]
theorem nth_setN : ∀ (l : List AV) (d i : Nat) (x : AV), nth (setN l d x) i = if i = d ∧ d < l.length then x else nth l i
 | [], d, i, x => by simp [nth_nil, nth_zero, nth_succ, setN_nil, setN_zero, setN_succ]
 | a :: l, 0, 0, x => by simp [nth_nil, nth_zero, nth_succ, setN_nil, setN_zero, setN_succ]
 | a :: l, 0, i + 1, x => by simp [nth_nil, nth_zero, nth_succ, setN_nil, setN_zero, setN_succ]
 | a :: l, d + 1, 0, x => by simp [nth_nil, nth_zero, nth_succ, setN_nil, setN_zero, setN_succ]
 | a :: l, d + 1, i + 1, x => by
  simp only [nth_nil, nth_zero, nth_succ, setN_nil, setN_zero, setN_succ, List.length_cons]
  rw [nth_setN l d i x]
  simp
theorem setN_length : ∀ (l : List AV) (d : Nat) (x : AV), (setN l d x).length = l.length
 | [], _, _ => rfl
 | _ :: _, 0, _ => rfl
 | _ :: l, d + 1, x => by simp [setN_succ, setN_length l d x]
def All2 {α β : Type} (R : α → β → Prop) : List α → List β → Prop
 | [], [] => True
 | a :: l, b :: m => R a b ∧ All2 R l m
 | _, _ => False
theorem All2.imp {α β : Type} {R S : α → β → Prop} (h : ∀ a b, R a b → S a b) : ∀ {l : List α} {m : List β}, All2 R l m → All2 S l m
 | [], [], _ => trivial
 | _ :: _, _ :: _, q => ⟨h _ _ q.1, All2.imp h q.2⟩
 | [], _ :: _, q => q.elim
 | _ :: _, [], q => q.elim
theorem All2.length {α β : Type} {R : α → β → Prop} : ∀ {l : List α} {m : List β}, All2 R l m → l.length = m.length
 | [], [], _ => rfl
 | _ :: _, _ :: _, q => by simp [All2.length q.2]
 | [], _ :: _, q => q.elim
 | _ :: _, [], q => q.elim
theorem All2.append {α β : Type} {R : α → β → Prop} : ∀ {l : List α} {m : List β} {l' : List α} {m' : List β}, All2 R l m → All2 R l' m' → All2 R (l ++ l') (m ++ m')
 | [], [], _, _, _, q => q
 | _ :: _, _ :: _, _, _, p, q => ⟨p.1, All2.append p.2 q⟩
 | [], _ :: _, _, _, p, _ => p.elim
 | _ :: _, [], _, _, p, _ => p.elim
theorem All2.drop {α β : Type} {R : α → β → Prop} : ∀ {l : List α} {m : List β} (n : Nat), All2 R l m → All2 R (l.drop n) (m.drop n)
 | [], [], n, _ => by simp [All2]
 | _ :: _, _ :: _, 0, q => q
 | _ :: _, _ :: _, n + 1, q => All2.drop n q.2
 | [], _ :: _, _, q => q.elim
 | _ :: _, [], _, q => q.elim
theorem All2.take {α β : Type} {R : α → β → Prop} : ∀ {l : List α} {m : List β} (n : Nat), All2 R l m → All2 R (l.take n) (m.take n)
 | [], [], n, _ => by simp [All2]
 | _ :: _, _ :: _, 0, q => trivial
 | _ :: _, _ :: _, n + 1, q => ⟨q.1, All2.take n q.2⟩
 | [], _ :: _, _, q => q.elim
 | _ :: _, [], _, q => q.elim
theorem All2.nth {β : Type} {R : AV → β → Prop} : ∀ {l : List AV} {m : List β} {i : Nat}, All2 R l m → i < l.length → ∃ b, m[i]? = some b ∧ R (nth l i) b
 | _ :: _, b :: _, 0, q, _ => ⟨b, rfl, q.1⟩
 | _ :: _, _ :: _, i + 1, q, h => by simpa [Vx.nth_succ] using All2.nth (i := i) q.2 (by simpa using h)
 | [], [], _, _, h => absurd h (by simp)
 | [], _ :: _, _, q, _ => q.elim
 | _ :: _, [], _, q, _ => q.elim
theorem All2.map {α : Type} {R : AV → Value → Prop} (f : α → AV) (g : α → Value) (h : ∀ a, R (f a) (g a)) : ∀ l : List α, All2 R (l.map f) (l.map g)
 | [] => trivial
 | a :: l => ⟨h a, All2.map f g h l⟩
structure Env where
 vs : Nat → Value
 F : Nat → Prop
 U : Nat → Prop
def VA (E : Env) (w : World) : AV → Value → Prop
 | .val v, u => u = v
 | .own t, u => E.U t ∧ u = E.vs t
 | .sh k xs, u => Rd w E.F (.slice k) xs [u]
 | .ptr t off, u => E.U t ∧ ∃ b, E.vs t = .pointer (some ⟨b, 0, none⟩) ∧ u = .pointer (some ⟨b, off, none⟩)
 | .epo t i sz off, u => E.U t ∧ ∃ g n c, E.vs t = .slice (some ⟨g, 0, none⟩) n c ∧ i < n ∧ u = .pointer (some ⟨g, i * sz + off, none⟩)
 | .dead, _ => True
 | _, _ => False
def VB (E : Env) (w : World) : AV → Value → Prop
 | .fn f caps, u => ∃ vals : List Value, u = .func (.func f) #[] vals.toArray ∧ All2 (VA E w) caps vals
 | .bm f pre, u => ∃ vals : List Value, u = .func (.func f) vals.toArray #[] ∧ All2 (VA E w) pre vals
 | av, u => VA E w av u
def VC (E : Env) (w : World) : AV → Value → Prop
 | .agg cells, u => ∃ vals : List Value, u = .agg vals.toArray ∧ All2 (VB E w) cells vals
 | .cp cells, u => ∃ (ad : Addr) (vals : List Value), u = .pointer (some ad) ∧ E.F ad.block ∧ All2 (VB E w) cells vals ∧ ∀ (j : Nat) (v : Value), vals[j]? = some v → w.cell? (ad.add j) = some v
 | .cs n _ cells, u => ∃ (ad : Addr) (cap : Nat) (vals : List Value), u = .slice (some ad) n cap ∧ E.F ad.block ∧ All2 (VB E w) cells vals ∧ ∀ (j : Nat) (v : Value), vals[j]? = some v → w.cell? (ad.add j) = some v
 | av, u => VB E w av u
def VR (E : Env) (w : World) : AV → Value → Prop
 | .tup cells, u => ∃ vals : List Value, u = .tuple vals.toArray ∧ All2 (VC E w) cells vals
 | av, u => VC E w av u
structure Stp (E : Env) (w : World) (E' : Env) (w' : World) : Prop where
 vs : ∀ t, E.U t → E'.vs t = E.vs t
 U : ∀ t, E.U t → E'.U t
 F : ∀ b, E.F b → E'.F b
 mem : ∀ b, E.F b → w'.heap[b]? = w.heap[b]?
theorem Stp.refl (E : Env) (w : World) : Stp E w E w := ⟨fun _ _ => rfl, fun _ h => h, fun _ h => h, fun _ _ => rfl⟩
theorem Stp.trans {E E1 E2 : Env} {w w1 w2 : World} (h : Stp E w E1 w1) (k : Stp E1 w1 E2 w2) : Stp E w E2 w2 :=
 ⟨fun t ht => (k.vs t (h.U t ht)).trans (h.vs t ht), fun t ht => k.U t (h.U t ht), fun b hb => k.F b (h.F b hb), fun b hb => (k.mem b (h.F b hb)).trans (h.mem b hb)⟩
section
variable {E E' : Env} {w w' : World}
theorem VA.step (st : Stp E w E' w') : ∀ {av : AV} {u : Value}, VA E w av u → VA E' w' av u := by
 intro av u h
 cases av with
 | val v => exact h
 | own t => exact ⟨st.U t h.1, by rw [st.vs t h.1]; exact h.2⟩
 | sh k xs => exact Rd.step (k := .slice k) st.mem st.F h
 | ptr t off => exact ⟨st.U t h.1, by rw [st.vs t h.1]; exact h.2⟩
 | epo t i sz off => exact ⟨st.U t h.1, by rw [st.vs t h.1]; exact h.2⟩
 | dead => trivial
 | cp _ => exact h
 | cs _ _ _ => exact h
 | agg _ => exact h
 | tup _ => exact h
 | fn _ _ => exact h
 | bm _ _ => exact h
theorem VB.step (st : Stp E w E' w') : ∀ {av : AV} {u : Value}, VB E w av u → VB E' w' av u := by
 intro av u h
 cases av with
 | fn f caps =>
  obtain ⟨vals, e, hc⟩ := h
  exact ⟨vals, e, hc.imp fun _ _ q => VA.step st q⟩
 | bm f pre =>
  obtain ⟨vals, e, hc⟩ := h
  exact ⟨vals, e, hc.imp fun _ _ q => VA.step st q⟩
 | val v => exact VA.step st (av := .val v) h
 | own t => exact VA.step st (av := .own t) h
 | sh k xs => exact VA.step st (av := .sh k xs) h
 | ptr t off => exact VA.step st (av := .ptr t off) h
 | epo t i sz off => exact VA.step st (av := .epo t i sz off) h
 | dead => trivial
 | cp _ => exact h
 | cs _ _ _ => exact h
 | agg _ => exact h
 | tup _ => exact h
theorem VC.step (st : Stp E w E' w') : ∀ {av : AV} {u : Value}, VC E w av u → VC E' w' av u := by
 intro av u h
 cases av with
 | agg cells =>
  obtain ⟨vals, e, hc⟩ := h
  exact ⟨vals, e, hc.imp fun _ _ q => VB.step st q⟩
 | cp cells =>
  obtain ⟨ad, vals, e, hf, hc, hm⟩ := h
  exact ⟨ad, vals, e, st.F _ hf, hc.imp fun _ _ q => VB.step st q, fun j v hj => cell_same (by rw [add_block]; exact st.mem _ hf) (hm j v hj)⟩
 | cs n z cells =>
  obtain ⟨ad, cap, vals, e, hf, hc, hm⟩ := h
  exact ⟨ad, cap, vals, e, st.F _ hf, hc.imp fun _ _ q => VB.step st q, fun j v hj => cell_same (by rw [add_block]; exact st.mem _ hf) (hm j v hj)⟩
 | fn f caps => exact VB.step st (av := .fn f caps) h
 | bm f pre => exact VB.step st (av := .bm f pre) h
 | val v => exact VB.step st (av := .val v) h
 | own t => exact VB.step st (av := .own t) h
 | sh k xs => exact VB.step st (av := .sh k xs) h
 | ptr t off => exact VB.step st (av := .ptr t off) h
 | epo t i sz off => exact VB.step st (av := .epo t i sz off) h
 | dead => trivial
 | tup _ => exact h
theorem VR.step (st : Stp E w E' w') : ∀ {av : AV} {u : Value}, VR E w av u → VR E' w' av u := by
 intro av u h
 cases av with
 | tup cells =>
  obtain ⟨vals, e, hc⟩ := h
  exact ⟨vals, e, hc.imp fun _ _ q => VC.step st q⟩
 | agg cells => exact VC.step st (av := .agg cells) h
 | cp cells => exact VC.step st (av := .cp cells) h
 | cs n z cells => exact VC.step st (av := .cs n z cells) h
 | fn f caps => exact VC.step st (av := .fn f caps) h
 | bm f pre => exact VC.step st (av := .bm f pre) h
 | val v => exact VC.step st (av := .val v) h
 | own t => exact VC.step st (av := .own t) h
 | sh k xs => exact VC.step st (av := .sh k xs) h
 | ptr t off => exact VC.step st (av := .ptr t off) h
 | epo t i sz off => exact VC.step st (av := .epo t i sz off) h
 | dead => trivial
theorem VB.c {av : AV} {u : Value} (h : VB E w av u) : VC E w av u := by
 cases av <;> first | exact h | exact h.elim
theorem VC.r {av : AV} {u : Value} (h : VC E w av u) : VR E w av u := by
 cases av <;> first | exact h | exact h.elim
theorem VB.r {av : AV} {u : Value} (h : VB E w av u) : VR E w av u := h.c.r
end
def blk : Value → Option Nat
 | .slice (some a) _ _ => some a.block
 | .pointer (some a) => some a.block
 | .map (some b) => some b
 | _ => none
structure Base where
 W : World
 Z : Nat → Prop
 A : Nat → Array Value
def EntOK (W0 : Base) (E : Env) (w : World) (v : Value) : Ent → Prop
 | .row r => (∃ cells, w.ownsRow W0.W.heap.size r.T r.k.sz v (List.length r.xs) cells ∧ Reps (Rd w E.F r.k) r.k.sz r.xs cells) ∧ ∀ b, blk v = some b → (E.F b ↔ r.fz = true)
 | .box T cells => ∃ (b : Nat) (vals : Array Value), v = .pointer (some ⟨b, 0, none⟩) ∧ W0.W.heap.size ≤ b ∧ ¬ E.F b ∧ w.heap[b]? = some (.cells vals T (0, 0)) ∧ All2 (VB E w) cells vals.toList
 | .mp kd vd l => ∃ (b : Nat) (es : Array MapEntry) (clock : Nat), v = .map (some b) ∧ W0.W.heap.size ≤ b ∧ ¬ E.F b ∧ w.heap[b]? = some (.map es clock) ∧ es.toList.map (fun e => (e.key, e.val)) = l.map (fun p => (Value.int kd p.1, Value.int vd p.2))
 | .ghost d cells => v = .bool false ∧ (W0.A d).size = cells.length ∧ ∀ i, VR E w (nth cells i) ((W0.A d).getD i undef)
structure SimS (W0 : Base) (E : Env) (s : St) (w : World) : Prop where
 below : Below W0.W.heap.size W0.W w
 fz : ∀ b, E.F b → b < w.heap.size
 old : ∀ b, E.F b → W0.Z b ∨ W0.W.heap.size ≤ b
 used : ∀ t, E.U t → t < s.nx
 ents : ∀ t e, find t s.ents = some e → E.U t ∧ EntOK W0 E w (E.vs t) e
 apart : ∀ t t' e e' b, t ≠ t' → find t s.ents = some e → find t' s.ents = some e' → blk (E.vs t) = some b → blk (E.vs t') = some b → False
structure Sim (W0 : Base) (E : Env) (s : St) (a : Act) (w : World) : Prop extends SimS W0 E s w where
 defers : a.defers = []
 tl : a.tmps.size = s.tmps.length
 slots : ∀ i, VR E w (nth s.tmps i) (a.tmps.getD i undef)
theorem own_blk {w : World} {base : Nat} {e : TypeId} {size n : Nat} {v : Value} {xs : List Value} (h : w.ownsRow base e size v n xs) : blk v = v.ownBlock := by
 rcases h.2 with ⟨rfl, _⟩ | ⟨g, cap, cur, rfl, _⟩ <;> rfl
theorem EntOK.blk_lt {W0 : Base} {E : Env} {w : World} {v : Value} {e : Ent} (h : EntOK W0 E w v e) {b : Nat} (hb : blk v = some b) : W0.W.heap.size ≤ b ∧ b < w.heap.size := by
 cases e with
 | row r =>
  obtain ⟨⟨cells, ho, _⟩, _⟩ := h
  rw [own_blk ho] at hb
  exact ⟨own_base ho b hb, own_lt ho b hb⟩
 | box T cells =>
  obtain ⟨g, vals, rfl, h0, _, hg, _⟩ := h
  obtain rfl : g = b := by simpa [blk] using hb
  exact ⟨h0, Go.Proofs.YtjnpcpnjcieheaaGreatW.PrintWords.blk_lt hg⟩
 | mp kd vd l =>
  obtain ⟨g, es, clock, rfl, h0, _, hg, _⟩ := h
  obtain rfl : g = b := by simpa [blk] using hb
  exact ⟨h0, Go.Proofs.YtjnpcpnjcieheaaGreatW.PrintWords.blk_lt hg⟩
 | ghost d cells =>
  obtain ⟨rfl, _⟩ := h
  cases hb
theorem EntOK.step {W0 : Base} {E E' : Env} {w w' : World} {v : Value} {e : Ent} (st : Stp E w E' w') (hm : ∀ b, blk v = some b → w'.heap[b]? = w.heap[b]? ∧ (E'.F b → E.F b)) (h : EntOK W0 E w v e) : EntOK W0 E' w' v e := by
 cases e with
 | row r =>
  obtain ⟨⟨cells, ho, hr⟩, hf⟩ := h
  refine ⟨⟨cells, own_move ho (fun k hk => (hm k (by rw [own_blk ho]; exact hk)).1), hr.imp_ fun _ _ q => Rd.step st.mem st.F q⟩, fun b hb => ?_⟩
  exact ⟨fun q => (hf b hb).1 ((hm b hb).2 q), fun q => st.F _ ((hf b hb).2 q)⟩
 | box T cells =>
  obtain ⟨b, vals, rfl, h0, hF, hg, hc⟩ := h
  obtain ⟨m1, m2⟩ := hm b rfl
  exact ⟨b, vals, rfl, h0, fun q => hF (m2 q), m1.trans hg, hc.imp fun _ _ q => VB.step st q⟩
 | mp kd vd l =>
  obtain ⟨b, es, clock, rfl, h0, hF, hg, hc⟩ := h
  obtain ⟨m1, m2⟩ := hm b rfl
  exact ⟨b, es, clock, rfl, h0, fun q => hF (m2 q), m1.trans hg, hc⟩
 | ghost d cells =>
  obtain ⟨h0, h1, h2⟩ := h
  exact ⟨h0, h1, fun i => (h2 i).step st⟩
theorem SimS.turn {W0 : Base} {E E' : Env} {s s' : St} {w w' : World} (h : SimS W0 E s w) (st : Stp E w E' w') (below : Below W0.W.heap.size W0.W w') (fz : ∀ b, E'.F b → b < w'.heap.size) (old : ∀ b, E'.F b → W0.Z b ∨ W0.W.heap.size ≤ b) (used : ∀ t, E'.U t → t < s'.nx)
  (ents : ∀ t e, find t s'.ents = some e → (find t s.ents = some e ∧ ∀ b, blk (E.vs t) = some b → w'.heap[b]? = w.heap[b]? ∧ (E'.F b → E.F b)) ∨ (E'.U t ∧ EntOK W0 E' w' (E'.vs t) e))
  (apart : ∀ t t' e e' b, t ≠ t' → find t s'.ents = some e → find t' s'.ents = some e' → blk (E'.vs t) = some b → blk (E'.vs t') = some b → False) : SimS W0 E' s' w' :=
 ⟨below, fz, old, used, fun t e ht => by
  rcases ents t e ht with ⟨h1, h2⟩ | h1
  ·obtain ⟨u, hk⟩ := h.ents t e h1
   refine ⟨st.U t u, ?_⟩
   rw [st.vs t u]
   exact hk.step st h2
  ·exact h1, apart⟩
theorem put_getD (a : Act) (d i : Nat) (v : Value) : (a.put (some d) v).tmps.getD i undef = if i = d ∧ d < a.tmps.size then v else a.tmps.getD i undef := by
 simp only [Act.put, Array.getD_eq_getD_getElem?]
 by_cases h : i = d
 ·subst h
  by_cases hl : i < a.tmps.size
  ·simp [hl]
  ·simp [hl, Array.getElem?_eq_none (Nat.le_of_not_lt hl)]
 ·rw [if_neg (fun q => h q.1), Array.getElem?_setIfInBounds_ne (Ne.symm h)]
theorem Sim.put {W0 : Base} {E : Env} {s : St} {a : Act} {w : World} (h : Sim W0 E s a w) (d : Option Tmp) {av : AV} {v : Value} (hv : VR E w av v) : Sim W0 E (s.put d av) (a.put d v) w := by
 cases d with
 | none => exact h
 | some d =>
  refine ⟨⟨h.below, h.fz, h.old, h.used, h.ents, h.apart⟩, h.defers, ?_, fun i => ?_⟩
  ·show (a.tmps.setIfInBounds d v).size = (setN s.tmps d av).length
   rw [setN_length, Array.size_setIfInBounds]; exact h.tl
  ·rw [put_getD]
   show VR E w (nth (setN s.tmps d av) i) _
   rw [nth_setN, h.tl]
   by_cases q : i = d ∧ d < s.tmps.length
   ·rw [if_pos q, if_pos q]; exact hv
   ·rw [if_neg q, if_neg q]; exact h.slots i
theorem Sim.turn {W0 : Base} {E E' : Env} {s s' : St} {a : Act} {w w' : World} (h : Sim W0 E s a w) (st : Stp E w E' w') (hs : SimS W0 E' s' w') (ht : s'.tmps = s.tmps) : Sim W0 E' s' a w' :=
 ⟨hs, h.defers, by rw [ht]; exact h.tl, fun i => by rw [ht]; exact (h.slots i).step st⟩
theorem Sim.below' {W0 : Base} {E : Env} {s : St} {a : Act} {w w' : World} (h : Sim W0 E s a w) (hb : Below w.heap.size w w') : Sim W0 E s a w' := by
 have st : Stp E w E w' := ⟨fun _ _ => rfl, fun _ q => q, fun _ q => q, fun b hF => hb.block b (h.fz b hF)⟩
 refine h.turn st ?_ rfl
 refine h.toSimS.turn st (below_then h.below h.below.size hb) (fun b hF => Nat.lt_of_lt_of_le (h.fz b hF) hb.size) h.old h.used (fun t e ht => .inl ⟨ht, fun b hbk => ?_⟩) h.apart
 obtain ⟨_, hok⟩ := h.ents t e ht
 exact ⟨hb.block b (hok.blk_lt hbk).2, fun q => q⟩
def St.add (s : St) (e : Ent) : St := ⟨s.tmps, (s.nx, e) :: s.ents, s.nx + 1⟩
def Env.add (E : Env) (n : Nat) (v : Value) (F : Nat → Prop) : Env := ⟨fun t => if t = n then v else E.vs t, F, fun t => E.U t ∨ t = n⟩
theorem Env.add_new (E : Env) (n : Nat) (v : Value) (F : Nat → Prop) : (E.add n v F).vs n = v := by simp [Env.add]
theorem Stp.add {E : Env} {w w' : World} {n : Nat} {v : Value} {F : Nat → Prop} (hn : ¬ E.U n) (hF : ∀ b, E.F b → F b) (hm : ∀ b, E.F b → w'.heap[b]? = w.heap[b]?) : Stp E w (E.add n v F) w' :=
 ⟨fun t ht => by simp only [Env.add]; rw [if_neg (fun e : t = n => hn (by rw [← e]; exact ht))], fun _ h => .inl h, hF, hm⟩
theorem Sim.fresh {W0 : Base} {E : Env} {s : St} {a : Act} {w w' : World} (h : Sim W0 E s a w) {e : Ent} {v : Value} {F : Nat → Prop} (hb : Below w.heap.size w w') (hF : ∀ b, E.F b → F b) (hF2 : ∀ b, F b → b < w'.heap.size ∧ (E.F b ∨ w.heap.size ≤ b))
  (hok : EntOK W0 (E.add s.nx v F) w' v e) (hnew : ∀ b, blk v = some b → w.heap.size ≤ b) : Sim W0 (E.add s.nx v F) (s.add e) a w' := by
 have hn : ¬ E.U s.nx := fun q => Nat.lt_irrefl _ (h.used _ q)
 have st : Stp E w (E.add s.nx v F) w' := Stp.add hn hF (fun b q => hb.block b (h.fz b q))
 refine h.turn st ?_ rfl
 refine h.toSimS.turn st (below_then h.below h.below.size hb) (fun b q => (hF2 b q).1) (fun b q => ?_) ?_ ?_ ?_
 ·rcases (hF2 b q).2 with q | q
  ·exact h.old b q
  ·have := h.below.size; exact .inr (by omega)
 ·intro t ht
  rcases ht with ht | rfl
  ·exact Nat.lt_succ_of_lt (h.used t ht)
  ·exact Nat.lt_succ_self _
 ·intro t e' ht
  simp only [St.add, find] at ht
  by_cases q : t = s.nx
  ·subst q
   simp only [Nat.beq_refl, cond_true] at ht
   obtain rfl := Option.some.inj ht
   exact .inr ⟨.inr rfl, by rw [Env.add_new]; exact hok⟩
  ·rw [beq_ne q] at ht
   refine .inl ⟨ht, fun b hbk => ?_⟩
   obtain ⟨_, hk⟩ := h.ents t e' ht
   have hlt := (hk.blk_lt hbk).2
   refine ⟨hb.block b hlt, fun q => ?_⟩
   rcases (hF2 b q).2 with q | q
   ·exact q
   ·omega
 ·intro t t' e1 e2 b hne h1 h2 hb1 hb2
  simp only [St.add, find] at h1 h2
  by_cases q1 : t = s.nx
  ·have q2 : t' ≠ s.nx := fun e => hne (q1.trans e.symm)
   rw [beq_ne q2] at h2
   obtain ⟨_, hk⟩ := h.ents t' e2 h2
   simp only [Env.add] at hb1 hb2
   rw [if_pos q1] at hb1
   rw [if_neg q2] at hb2
   have := hnew b hb1
   have := (hk.blk_lt hb2).2
   omega
  ·rw [beq_ne q1] at h1
   obtain ⟨_, hk⟩ := h.ents t e1 h1
   simp only [Env.add] at hb1 hb2
   rw [if_neg q1] at hb1
   by_cases q2 : t' = s.nx
   ·rw [if_pos q2] at hb2
    have := hnew b hb2
    have := (hk.blk_lt hb1).2
    omega
   ·rw [if_neg q2] at hb2
    rw [beq_ne q2] at h2
    exact h.apart t t' e1 e2 b hne h1 h2 hb1 hb2
noncomputable def natF {β : Type} (n : Nat) (k : Nat → β) : β := Nat.rec (motive := fun _ => β) (k Nat.zero) (fun m _ => k (Nat.succ m)) n
theorem natF_eq {β : Type} (n : Nat) (k : Nat → β) : natF n k = k n := by cases n <;> rfl
noncomputable def frcV {β : Type} (a : AV) (k : AV → β) : β :=
 match a with
 | .val v => (match v with
  | .int i x => k (.val (.int i x))
  | .bool b => k (.val (.bool b))
  | v => k (.val v))
 | .own t => natF t fun t => k (.own t)
 | .ptr t o => natF t fun t => natF o fun o => k (.ptr t o)
 | .epo t i z o => natF t fun t => natF z fun z => natF o fun o => k (.epo t i z o)
 | a => k a
theorem frcV_eq {β : Type} (a : AV) (k : AV → β) : frcV a k = k a := by
 unfold frcV
 split
 ·split <;> rfl
 all_goals first | rfl | simp only [natF_eq]
noncomputable def frcL {β : Type} (l : List AV) : (List AV → β) → β :=
 List.rec (motive := fun _ => (List AV → β) → β) (fun k => k []) (fun a _ ih k => frcV a fun a => ih fun l => k (a :: l)) l
theorem frcL_eq {β : Type} : ∀ (l : List AV) (k : List AV → β), frcL l k = k l
 | [], k => rfl
 | a :: l, k => (frcV_eq a fun a => frcL l fun l => k (a :: l)).trans (frcL_eq l fun l => k (a :: l))
noncomputable def frcN {β : Type} (e : Ent) (k : Ent → β) : β :=
 match e with
 | .box T c => frcL c fun c => k (.box T c)
 | .row r => (match r with | ⟨a, b, c, d⟩ => k (.row ⟨a, b, c, d⟩))
 | .ghost d c => natF d fun d => frcL c fun c => k (.ghost d c)
 | e => k e
theorem frcN_eq {β : Type} (e : Ent) (k : Ent → β) : frcN e k = k e := by
 unfold frcN
 split
 ·rw [frcL_eq]
 ·rfl
 ·rw [natF_eq, frcL_eq]
 ·rfl
noncomputable def frcE {β : Type} (l : List (Nat × Ent)) : (List (Nat × Ent) → β) → β :=
 List.rec (motive := fun _ => (List (Nat × Ent) → β) → β) (fun k => k []) (fun a _ ih k => natF a.1 fun t => frcN a.2 fun e => ih fun l => k ((t, e) :: l)) l
theorem frcE_eq {β : Type} : ∀ (l : List (Nat × Ent)) (k : List (Nat × Ent) → β), frcE l k = k l
 | [], k => rfl
 | a :: l, k => by
  show (natF a.1 fun t => frcN a.2 fun e => frcE l fun l => k ((t, e) :: l)) = _
  rw [natF_eq, frcN_eq, frcE_eq]
noncomputable def frcS {β : Type} (k : St → β) (s : St) : β := frcL s.tmps fun t => frcE s.ents fun e => natF s.nx fun n => k ⟨t, e, n⟩
theorem frcS_eq {β : Type} (k : St → β) : frcS k = k := by
 funext s
 unfold frcS
 rw [frcL_eq, frcE_eq, natF_eq]
end Go.Vx
namespace Go.Vx
open Go.RowKit Go.Proofs.YtjnpcpnjcieheaaGreatW.PrintWords
set_option linter.unusedVariables false
set_option linter.unusedSimpArgs false
def oif {R : Type} (c : Prop) [Decidable c] (a b : Option R) : Option R := if c then a else b
def obd {A R : Type} (m : Option A) (f : A → Option R) : Option R := m.bind f
def inj : (k : K) → k.T → List AV
 | .int k, x => [.val (.int k x)]
 | .bool, x => [.val (.bool x)]
 | .str, x => [.val (.string x)]
 | .slice e, xs => [.sh e xs]
 | .pair a b, x => inj a x.1 ++ inj b x.2
 | .unit, _ => []
theorem inj_rd {E : Env} {w : World} : ∀ {k : K} {x : k.T} {cs : List Value}, Rd w E.F k x cs → All2 (VB E w) (inj k x) cs
 | .int _, _, _, h => by rw [show _ = _ from h]; exact ⟨rfl, trivial⟩
 | .bool, _, _, h => by rw [show _ = _ from h]; exact ⟨rfl, trivial⟩
 | .str, _, _, h => by rw [show _ = _ from h]; exact ⟨rfl, trivial⟩
 | .slice e, xs, _, h => by
  have h' := h
  obtain ⟨A, c, rfl, _⟩ := h'
  exact ⟨h, trivial⟩
 | .pair a b, x, _, h => by
  obtain ⟨c0, c1, rfl, h0, h1⟩ := h
  exact (inj_rd h0).append (inj_rd h1)
 | .unit, _, _, h => by rw [show _ = _ from h]; trivial
def avInt (k : IntKind) : AV → Option Int
 | .val (.int l x) => if k = l then some x else none
 | _ => none
def avBool : AV → Option Bool
 | .val (.bool b) => some b
 | _ => none
def avStr : AV → Option ByteArray
 | .val (.string b) => some b
 | _ => none
def avSl (s : St) (any : Bool) (e : K) : AV → Option (List e.T)
 | .sh k xs => K.cast (.slice k) (.slice e) xs
 | .val (.slice none 0 0) => some ([] : List e.T)
 | .own t => match find t s.ents with
  | some (.row r) => bif r.fz || any then K.cast (.slice r.k) (.slice e) r.xs else none
  | _ => none
 | _ => none
def one1 {α : Type} (f : AV → Option α) : List AV → Option α
 | [c] => f c
 | _ => none
def prj (s : St) (any : Bool) : (k : K) → List AV → Option k.T
 | .int k, cs => one1 (avInt k) cs
 | .bool, cs => one1 avBool cs
 | .str, cs => one1 avStr cs
 | .slice e, cs => one1 (avSl s any e) cs
 | .pair a b, cs => match prj s any a (cs.take a.sz), prj s any b (cs.drop a.sz) with
  | some x, some y => some (x, y)
  | _, _ => none
 | .unit, [] => some ()
 | .unit, _ :: _ => none
theorem one1_eq {α : Type} {f : AV → Option α} {cs : List AV} {x : α} (h : one1 f cs = some x) : ∃ c, cs = [c] ∧ f c = some x := by
 match cs, h with
 | [c], h => exact ⟨c, rfl, h⟩
theorem own_rd {W0 : Base} {F : Nat → Prop} {w : World} {r : Row} {v : Value} (h : ∃ cells, w.ownsRow W0.W.heap.size r.T r.k.sz v (List.length r.xs) cells ∧ Reps (Rd w F r.k) r.k.sz r.xs cells) (hF : ∀ b, blk v = some b → F b) : Rd w F (.slice r.k) r.xs [v] := by
 obtain ⟨cells, ho, hr⟩ := h
 obtain ⟨A, c, rfl, hR⟩ := own_reads_row ho hr rfl
 refine ⟨A, c, rfl, own_le ho, hR, fun hn ad ha => hF _ (by rw [ha]; rfl)⟩
theorem cast_rd {w : World} {F : Nat → Prop} {a b : K} {x : a.T} {y : b.T} {cs : List Value} (h : K.cast a b x = some y) (hr : Rd w F a x cs) : Rd w F b y cs := by
 obtain ⟨rfl, rfl⟩ := K.cast_eq h
 exact hr
theorem VA.slice1 {W0 : Base} {E : Env} {s : St} {w : World} (hs : SimS W0 E s w) {F : Nat → Prop} (hF : ∀ b, E.F b → F b) {any : Bool} (ha : any = true → ∀ b, b < w.heap.size → F b) {e : K} {c : AV} {u : Value} {xs : List e.T} (h : avSl s any e c = some xs) (hv : VB E w c u) : Rd w F (.slice e) xs [u] := by
 match c, h, hv with
 | .sh k ys, h, hv => exact cast_rd h (Rd.step (k := .slice k) (fun _ _ => rfl) hF hv)
 | .val (.slice none 0 0), h, hv =>
  obtain rfl := Option.some.inj h
  rw [show u = _ from hv]
  exact ⟨none, 0, rfl, Nat.le_refl _, ⟨rfl, by simp, fun h0 => absurd h0 (by simp)⟩, fun h0 => absurd h0 (by simp)⟩
 | .own t, h, hv =>
  have h' : (match find t s.ents with
   | some (.row r) => bif r.fz || any then K.cast (.slice r.k) (.slice e) r.xs else none
   | _ => none) = some xs := h
  cases he : find t s.ents with
  | none => rw [he] at h'; cases h'
  | some en =>
   cases en with
   | box T cells => rw [he] at h'; cases h'
   | mp kd vd l => rw [he] at h'; cases h'
   | ghost d cells => rw [he] at h'; cases h'
   | row r =>
    rw [he] at h'
    simp only [] at h'
    obtain ⟨hu, rfl⟩ := hv
    obtain ⟨_, hok⟩ := hs.ents _ _ he
    have hr : ∃ cells, w.ownsRow W0.W.heap.size r.T r.k.sz (E.vs t) (List.length r.xs) cells ∧ Reps (Rd w F r.k) r.k.sz r.xs cells := by
     obtain ⟨cells, ho, hr⟩ := hok.1
     exact ⟨cells, ho, hr.imp_ fun _ _ q => Rd.step (fun _ _ => rfl) hF q⟩
    cases hf : r.fz || any with
    | false => rw [hf] at h'; cases h'
    | true =>
     rw [hf] at h'
     refine cast_rd h' (own_rd hr fun b hb => ?_)
     rcases Bool.or_eq_true_iff.1 hf with q | q
     ·exact hF _ ((hok.2 b hb).2 q)
     ·exact ha q b (EntOK.blk_lt (e := .row r) hok hb).2
theorem All2.one {β : Type} {R : AV → β → Prop} {c : AV} {m : List β} (h : All2 R [c] m) : ∃ u, m = [u] ∧ R c u := by
 match m, h with
 | [u], h => exact ⟨u, rfl, h.1⟩
theorem prj_rd {W0 : Base} {E : Env} {s : St} {w : World} (hs : SimS W0 E s w) {F : Nat → Prop} (hF : ∀ b, E.F b → F b) {any : Bool} (ha : any = true → ∀ b, b < w.heap.size → F b) : ∀ {k : K} {cells : List AV} {x : k.T} {vals : List Value}, prj s any k cells = some x → All2 (VB E w) cells vals → Rd w F k x vals
 | .int k, cells, x, vals, h, hc => by
  obtain ⟨c, rfl, hx⟩ := one1_eq h
  obtain ⟨u, rfl, hu⟩ := hc.one
  unfold avInt at hx
  split at hx
  ·split at hx
   ·rename_i e
    subst e
    obtain rfl := Option.some.inj hx
    rw [show u = _ from hu]; rfl
   ·cases hx
  ·cases hx
 | .bool, cells, x, vals, h, hc => by
  obtain ⟨c, rfl, hx⟩ := one1_eq h
  obtain ⟨u, rfl, hu⟩ := hc.one
  unfold avBool at hx
  split at hx
  ·obtain rfl := Option.some.inj hx
   rw [show u = _ from hu]; rfl
  ·cases hx
 | .str, cells, x, vals, h, hc => by
  obtain ⟨c, rfl, hx⟩ := one1_eq h
  obtain ⟨u, rfl, hu⟩ := hc.one
  unfold avStr at hx
  split at hx
  ·obtain rfl := Option.some.inj hx
   rw [show u = _ from hu]; rfl
  ·cases hx
 | .slice e, cells, x, vals, h, hc => by
  obtain ⟨c, rfl, hx⟩ := one1_eq h
  obtain ⟨u, rfl, hu⟩ := hc.one
  exact VA.slice1 hs hF ha hx hu
 | .pair a b, cells, x, vals, h, hc => by
  simp only [prj] at h
  split at h
  ·rename_i x0 y0 h0 h1
   obtain rfl := Option.some.inj h
   exact ⟨vals.take a.sz, vals.drop a.sz, (List.take_append_drop _ _).symm, prj_rd hs hF ha h0 (hc.take _), prj_rd hs hF ha h1 (hc.drop _)⟩
  ·cases h
 | .unit, [], x, vals, h, hc => by
  match vals, hc with
  | [], _ => rfl
 | .unit, _ :: _, x, vals, h, hc => by cases h
noncomputable def evl (s : St) : Operand → AV
 | .tmp t => nth s.tmps t
 | .const v => .val v
 | .func f => .fn f []
 | .global _ => .dead
theorem Sim.ev {W0 : Base} {E : Env} {s : St} {a : Act} {w : World} (h : Sim W0 E s a w) (x : Operand) : VR E w (evl s x) (a.eval x) := by
 cases x with
 | tmp t => exact h.slots t
 | const v => rfl
 | func f => exact ⟨[], rfl, trivial⟩
 | global g => trivial
noncomputable def opnd (s : St) (x : Operand) : Value :=
 match evl s x with
 | .val v => v
 | _ => undef
noncomputable def isVal (s : St) (x : Operand) : Bool :=
 match evl s x with
 | .val _ => true
 | _ => false
theorem Sim.opnd {W0 : Base} {E : Env} {s : St} {a : Act} {w : World} (h : Sim W0 E s a w) {x : Operand} (hx : isVal s x = true) : a.eval x = Vx.opnd s x := by
 have := h.ev x
 unfold isVal at hx
 unfold Vx.opnd
 split at hx
 ·rename_i v e
  rw [e] at this
  exact this
 ·cases hx
def calm (P : Program) {α : Type} : Sem α → Option α
 | .pure a => some a
 | .program k => calm P (k P)
 | .mark _ k => calm P k
 | _ => none
theorem calm_run {P : Program} {α : Type} : ∀ {c : Sem α} {a : α} (w : World), calm P c = some a → c.run P w = .ok a w
 | .pure _, _, w, h => by rw [Option.some.inj h]; rfl
 | .program k, _, w, h => calm_run (c := k P) w h
 | .mark _ k, _, w, h => calm_run (c := k) w h
 | .load .., _, _, h => by cases h
 | .store .., _, _, h => by cases h
 | .new .., _, _, h => by cases h
 | .shape .., _, _, h => by cases h
 | .freeze .., _, _, h => by cases h
 | .frozen .., _, _, h => by cases h
 | .getObj .., _, _, h => by cases h
 | .setObj .., _, _, h => by cases h
 | .choose .., _, _, h => by cases h
 | .sys .., _, _, h => by cases h
 | .halt .., _, _, h => by cases h
def QTo (P : Program) (o : Oper) (s : St) (av : AV) : Prop :=
 ∀ (W0 : Base) (E : Env) (a : Act) (w : World), Sim W0 E s a w → ∃ v, VR E w av v ∧ ∀ w', Below w.heap.size w w' → o.quietAt P a (Below w.heap.size w) w' v
theorem QTo.pure {P : Program} {o : Oper} {s : St} {av : AV} (h : ∀ (W0 : Base) (E : Env) (a : Act) (w : World), Sim W0 E s a w → ∃ v, VR E w av v ∧ ∀ w', Below w.heap.size w w' → (execOp a.eval o).run P w' = .ok (.value v) w') : QTo P o s av := by
 intro W0 E a w hs
 obtain ⟨v, hv, hr⟩ := h W0 E a w hs
 refine ⟨v, hv, fun w' hb => ?_⟩
 unfold Oper.quietAt
 rw [hr w' hb]
 exact ⟨rfl, rfl⟩
theorem QTo.calm {P : Program} {o : Oper} {s : St} {v : Value} (hsel : ∀ cs b, o.op ≠ .select cs b) (hv : o.op.operands.toList.all (isVal s) = true) (h : calm P (execOp (opnd s) o) = some (.value v)) : QTo P o s (.val v) :=
 QTo.pure fun W0 E a w hs => ⟨v, rfl, fun w' _ => by
  rw [execOp_congr (ρ := a.eval) (ρ' := opnd s) o hsel (fun x hx => hs.opnd (List.all_eq_true.1 hv x (Array.mem_toList_iff.2 hx)))]
  exact calm_run w' h⟩
theorem add_off (b o j : Nat) : (⟨b, o, none⟩ : Addr).add j = ⟨b, o + j, none⟩ := by unfold Addr.add; split <;> simp_all
def aggD : TypeDesc → Bool
 | .struct _ => true
 | .array _ _ => true
 | _ => false
theorem run_isAgg {P : Program} {T : TypeId} {d : TypeDesc} (hd : P.underlying T = some d) (w : World) : (isAgg T).run P w = .ok (aggD d) w := by
 unfold isAgg
 rw [Sem.run_bind, run_underlying hd w]
 cases d <;> rfl
theorem run_loadVar_agg {P : Program} {T : TypeId} {d : TypeDesc} {i : TypeInfo} {ad : Addr} {w : World} (hd : P.underlying T = some d) (ha : aggD d = true) (hi : P.info? T = some i) (vals : List Value) (hs : i.size = vals.length) (hc : ∀ (j : Nat) (v : Value), vals[j]? = some v → w.cell? (ad.add j) = some v) : (loadVar T ad).run P w = .ok (.agg vals.toArray) w := by
 have hl := run_loadCells_list (P := P) w ad vals hc
 simp [loadVar, Sem.run_bind, run_isAgg hd, ha, sizeOf, typeInfo, hi, hs, hl]
theorem run_loadVar_one {P : Program} {T : TypeId} {d : TypeDesc} {ad : Addr} {w : World} {v : Value} (hd : P.underlying T = some d) (ha : aggD d = false) (hc : w.cell? ad = some v) : (loadVar T ad).run P w = .ok v w := by
 simp [loadVar, Sem.run_bind, run_isAgg hd, ha, load, Sem.run, hc]
def take1 (P : Program) (T : TypeId) (cells : List AV) : Option AV :=
 match P.underlying T, P.info? T with
 | some d, some i => bif aggD d then (bif Nat.ble i.size cells.length then some (.agg (cells.take i.size)) else none) else (match cells with | c :: _ => some c | [] => none)
 | _, _ => none
theorem take1_run {P : Program} {T : TypeId} {cells : List AV} {av : AV} {E : Env} {w w' : World} {ad : Addr} {vals : List Value} (h : take1 P T cells = some av) (hv : All2 (VB E w) cells vals) :
  ∃ v, VR E w av v ∧ ∀ w', (∀ (j : Nat) (v : Value), vals[j]? = some v → w'.cell? (ad.add j) = some v) → (loadVar T ad).run P w' = .ok v w' := by
 unfold take1 at h
 split at h
 ·rename_i d i hd hi
  cases ha : aggD d with
  | true =>
   rw [ha] at h
   simp only [cond_true] at h
   cases hl : Nat.ble i.size cells.length with
   | false => rw [hl] at h; cases h
   | true =>
    rw [hl] at h
    obtain rfl := Option.some.inj h
    have hle : i.size ≤ cells.length := Nat.le_of_ble_eq_true hl
    have hvl := hv.length
    refine ⟨.agg (vals.take i.size).toArray, ⟨_, rfl, hv.take _⟩, fun w' hc => run_loadVar_agg hd ha hi _ (by simp; omega) (fun j v hj => hc j v ?_)⟩
    rw [List.getElem?_take] at hj
    split at hj
    ·exact hj
    ·cases hj
  | false =>
   rw [ha] at h
   simp only [cond_false] at h
   split at h
   ·rename_i c l
    obtain rfl := Option.some.inj h
    match vals, hv with
    | u :: m, hv =>
     refine ⟨u, hv.1.r, fun w' hc => run_loadVar_one hd ha ?_⟩
     have := hc 0 u rfl
     unfold Addr.add at this
     simpa using this
   ·cases h
 ·cases h
end Go.Vx
namespace Go.Vx
open Go.RowKit Go.Proofs.YtjnpcpnjcieheaaGreatW.PrintWords
set_option linter.unusedVariables false
set_option linter.unusedSimpArgs false
def joinA : List (Option Nat) → List Value → List Value
 | [], _ => []
 | none :: l, c :: cs => c :: joinA l cs
 | none :: _, [] => []
 | some n :: l, cs => .agg (cs.take n).toArray :: joinA l (cs.drop n)
inductive Item where
 | im (k : K)
 | own (k : K) (T : TypeId)
def Item.T : Item → Type
 | .im k => k.T
 | .own k _ => List k.T
def Item.sz : Item → Nat
 | .im k => k.sz
 | .own _ _ => 1
def itemsT : List Item → Type
 | [] => Unit
 | [a] => a.T
 | a :: b :: l => a.T × itemsT (b :: l)
inductive Ret where
 | one (s : Option Nat)
 | tup (l : List (Option Nat))
def Ret.val : Ret → List Value → Value
 | .one none, cs => cs.getD 0 undef
 | .one (some n), cs => .agg (cs.take n).toArray
 | .tup l, cs => .tuple (joinA l cs).toArray
structure Spec where
 shape : List (Option Nat)
 argK : K
 items : List Item
 ret : Ret
 alias : Bool
 run : argK.T → Option (itemsT items)
def RI (B : Nat) (w : World) (F : Nat → Prop) : (i : Item) → i.T → List Value → Prop
 | .im k, x, cs => Rd w F k x cs
 | .own k T, xs, cs => ∃ v, cs = [v] ∧ (∃ cells, w.ownsRow B T k.sz v (List.length xs) cells ∧ Reps (Rd w F k) k.sz xs cells) ∧ ∀ b, blk v = some b → ¬ F b
def RIs (B : Nat) (w : World) (F : Nat → Prop) : (l : List Item) → itemsT l → List Value → Prop
 | [], _, cs => cs = []
 | [a], x, cs => RI B w F a x cs
 | a :: b :: l, x, cs => ∃ c0 c1, cs = c0 ++ c1 ∧ RI B w F a x.1 c0 ∧ RIs B w F (b :: l) x.2 c1
def owns : List Item → List Value → List Value
 | [], _ => []
 | .im k :: l, cs => owns l (cs.drop k.sz)
 | .own _ _ :: l, cs => cs.take 1 ++ owns l (cs.drop 1)
def Ends (w : World) (F : Nat → Prop) (sp : Spec) (r : itemsT sp.items) (e : Ending) (w' : World) : Prop :=
 ∃ (rc : List Value) (F' : Nat → Prop), e = .returned (sp.ret.val rc) ∧ Below w.heap.size w w' ∧ (∀ b, F' b → b < w'.heap.size ∧ ((sp.alias = true ∧ F b) ∨ w.heap.size ≤ b)) ∧
  RIs w.heap.size w' F' sp.items r rc ∧ (owns sp.items rc).Pairwise (fun u v => ∀ b, blk u = some b → blk v ≠ some b)
structure Good (P : Program) (f : FuncId) (sp : Spec) : Prop where
 enters : ∃ fn, P.funcs[f]? = some fn ∧ fn.body.isSome = true ∧ (fn.name == "runtime.NumGoroutine") = false
 ends : ∀ (x : sp.argK.T) (r : itemsT sp.items), sp.run x = some r → ∀ (w : World) (F : Nat → Prop) (cells : List Value), (∀ b, F b → b < w.heap.size) → Rd w F sp.argK x cells →
  Calls P f (joinA sp.shape cells).toArray w (Ends w F sp r)
def Fns := List (Nat × Spec)
def Fns.get (l : Fns) (f : Nat) : Option Spec :=
 match l with
 | [] => none
 | (g, sp) :: l => bif Nat.beq f g then some sp else Fns.get l f
def Fns.good (P : Program) (l : Fns) : Prop := ∀ f sp, l.get f = some sp → Good P f sp
def K.plain : K → Bool
 | .int _ => true
 | .bool => true
 | .str => true
 | .pair a b => a.plain && b.plain
 | _ => false
def plainI : List Item → Bool
 | [] => true
 | .im k :: l => k.plain && plainI l
 | .own _ _ :: _ => false
def plainV : (k : K) → k.T → List Value
 | .int k, x => [.int k x]
 | .bool, x => [.bool x]
 | .str, x => [.string x]
 | .pair a b, x => plainV a x.1 ++ plainV b x.2
 | _, _ => []
theorem Rd.plainV {w : World} {F : Nat → Prop} : ∀ {k : K} {x : k.T} {cs : List Value}, k.plain = true → Rd w F k x cs → cs = Vx.plainV k x
 | .int _, _, _, _, h => h
 | .bool, _, _, _, h => h
 | .str, _, _, _, h => h
 | .pair a b, _, _, hp, h => by
  obtain ⟨c0, c1, rfl, h0, h1⟩ := h
  simp only [K.plain, Bool.and_eq_true] at hp
  rw [Rd.plainV hp.1 h0, Rd.plainV hp.2 h1]; rfl
def plainVs : (l : List Item) → itemsT l → List Value
 | [], _ => []
 | [.im k], x => plainV k x
 | .im k :: b :: l, x => plainV k x.1 ++ plainVs (b :: l) x.2
 | _, _ => []
theorem RIs.plainVs {B : Nat} {w : World} {F : Nat → Prop} : ∀ {l : List Item} {x : itemsT l} {cs : List Value}, plainI l = true → RIs B w F l x cs → cs = Vx.plainVs l x
 | [], _, _, _, h => h
 | [.im k], _, _, hp, h => by
  simp only [plainI, Bool.and_true] at hp
  exact Rd.plainV hp h
 | .im k :: b :: l, _, _, hp, h => by
  obtain ⟨c0, c1, rfl, h0, h1⟩ := h
  rw [plainI, Bool.and_eq_true] at hp
  rw [Rd.plainV hp.1 h0, RIs.plainVs hp.2 h1]; rfl
section
variable {R : Type}
def QOk (P : Program) (o : Oper) (s : St) (k : AV → Option R) (r : R) : Prop := ∃ av, k av = some r ∧ QTo P o s av
noncomputable def qMove (s : St) (x : Operand) (k : AV → Option R) : Option R := k (evl s x)
theorem qMove_ok {P : Program} {o : Oper} {s : St} {x : Operand} {k : AV → Option R} {r : R} (ho : o.op = .move x ∨ o.op = .assign x) (h : qMove s x k = some r) : QOk P o s k r :=
 ⟨_, h, QTo.pure fun W0 E a w hs => ⟨_, hs.ev x, fun w' _ => by rcases ho with ho | ho <;> simp [execOp, ho] <;> rfl⟩⟩
noncomputable def qPick (s : St) (c x y : Operand) (k : AV → Option R) : Option R :=
 match evl s c with
 | .val (.bool b) => oif (b = true) (k (evl s x)) (k (evl s y))
 | _ => none
theorem qPick_ok {P : Program} {o : Oper} {s : St} {c x y : Operand} {k : AV → Option R} {r : R} (ho : o.op = .pick c x y) (h : qPick s c x y k = some r) : QOk P o s k r := by
 unfold qPick oif at h
 split at h
 ·rename_i b hc
  have key : ∀ (W0 : Base) (E : Env) (a : Act) (w : World), Sim W0 E s a w → a.eval c = .bool b := fun W0 E a w hs => by
   have := hs.ev c
   rw [hc] at this
   exact this
  split at h
  ·rename_i hb
   refine ⟨_, h, QTo.pure fun W0 E a w hs => ⟨_, hs.ev x, fun w' _ => ?_⟩⟩
   simp [execOp, ho, key W0 E a w hs, asBool, hb]
  ·rename_i hb
   refine ⟨_, h, QTo.pure fun W0 E a w hs => ⟨_, hs.ev y, fun w' _ => ?_⟩⟩
   simp [execOp, ho, key W0 E a w hs, asBool, hb]
 ·cases h
noncomputable def qCalm (P : Program) (o : Oper) (s : St) (k : AV → Option R) : Option R :=
 bif o.op.operands.toList.all (isVal s) then
  match calm P (execOp (opnd s) o) with
  | some (.value v) => k (.val v)
  | _ => none
 else none
theorem qCalm_ok {P : Program} {o : Oper} {s : St} {k : AV → Option R} {r : R} (ho : ∀ cs b, o.op ≠ .select cs b) (h : qCalm P o s k = some r) : QOk P o s k r := by
 unfold qCalm at h
 cases hv : o.op.operands.toList.all (isVal s) with
 | false => rw [hv] at h; cases h
 | true =>
  rw [hv] at h
  simp only [cond_true] at h
  split at h
  ·rename_i v hc
   exact ⟨_, h, QTo.calm ho hv hc⟩
  ·cases h
def divF (op : BinOp) (k : IntKind) (x y : Int) : Int :=
 match op with
 | .quo => k.wrap (x.tdiv y)
 | _ => x.tmod y
noncomputable def qDiv (op : BinOp) (s : St) (x y : Operand) (k : AV → Option R) : Option R :=
 match evl s x, evl s y with
 | .val (.int kx a), .val (.int ky b) => if kx = ky then (oif (b = 0) none (k (.val (.int kx (divF op kx a b))))) else none
 | _, _ => none
theorem qDiv_ok {P : Program} {o : Oper} {s : St} {op : BinOp} {T U : TypeId} {x y : Operand} {k : AV → Option R} {r : R} (ho : o.op = .binOp op T x y U) (hop : op = .quo ∨ op = .rem) (h : qDiv op s x y k = some r) : QOk P o s k r := by
 unfold qDiv oif at h
 split at h
 ·rename_i kx a ky b hx hy
  split at h
  ·rename_i hk
   subst hk
   split at h
   ·cases h
   ·rename_i hb
    refine ⟨_, h, QTo.pure fun W0 E ac w hs => ⟨_, rfl, fun w' _ => ?_⟩⟩
    have e1 : ac.eval x = .int kx a := by have := hs.ev x; rw [hx] at this; exact this
    have e2 : ac.eval y = .int kx b := by have := hs.ev y; rw [hy] at this; exact this
    rcases hop with rfl | rfl <;> simp [execOp, ho, e1, e2, eqGuard, binOp, Op.intDiv, hb, divF, Sem.run_bind, Sem.run_pure]
  ·cases h
 ·cases h
def shF (op : BinOp) (k : IntKind) (x y : Int) : Int :=
 match op with
 | .shl => k.wrap (x * 2 ^ min y.toNat k.bits)
 | _ => x.fdiv (2 ^ min y.toNat k.bits)
noncomputable def qShift (op : BinOp) (s : St) (x y : Operand) (k : AV → Option R) : Option R :=
 match evl s x, evl s y with
 | .val (.int kx a), .val (.int _ b) => oif (b < 0) none (k (.val (.int kx (shF op kx a b))))
 | _, _ => none
theorem qShift_ok {P : Program} {o : Oper} {s : St} {op : BinOp} {T U : TypeId} {x y : Operand} {k : AV → Option R} {r : R} (ho : o.op = .binOp op T x y U) (hop : op = .shl ∨ op = .shr) (h : qShift op s x y k = some r) : QOk P o s k r := by
 unfold qShift oif at h
 split at h
 ·rename_i kx a ky b hx hy
  split at h
  ·cases h
  ·rename_i hb
   refine ⟨_, h, QTo.pure fun W0 E ac w hs => ⟨_, rfl, fun w' _ => ?_⟩⟩
   have e1 : ac.eval x = .int kx a := by have := hs.ev x; rw [hx] at this; exact this
   have e2 : ac.eval y = .int ky b := by have := hs.ev y; rw [hy] at this; exact this
   rcases hop with rfl | rfl <;> simp [execOp, ho, e1, e2, eqGuard, binOp, Op.shift, hb, shF, Sem.run_bind, Sem.run_pure]
 ·cases h
noncomputable def qExtract (s : St) (x : Operand) (i : Nat) (k : AV → Option R) : Option R :=
 match evl s x with
 | .tup cs => bif Nat.blt i cs.length then k (nth cs i) else none
 | _ => none
theorem qExtract_ok {P : Program} {o : Oper} {s : St} {x : Operand} {i : Nat} {k : AV → Option R} {r : R} (ho : o.op = .extract x i) (h : qExtract s x i k = some r) : QOk P o s k r := by
 unfold qExtract at h
 split at h
 ·rename_i cs hx
  cases hl : Nat.blt i cs.length with
  | false => rw [hl] at h; cases h
  | true =>
   rw [hl] at h
   have hlt : i < cs.length := Nat.le_of_ble_eq_true hl
   refine ⟨_, h, QTo.pure fun W0 E a w hs => ?_⟩
   have := hs.ev x
   rw [hx] at this
   obtain ⟨vals, e, hc⟩ := this
   obtain ⟨v, hv, hR⟩ := hc.nth hlt
   refine ⟨v, hR.r, fun w' _ => ?_⟩
   simp [execOp, ho, e, Instr.extract, hv]
 ·cases h
noncomputable def qField (P : Program) (s : St) (T : TypeId) (x : Operand) (i : Nat) (k : AV → Option R) : Option R :=
 match evl s x, P.underlying T with
 | .agg cs, some (.struct fs) => match fs[i]? with
  | some f => match take1 P f.type (cs.drop f.offset) with
   | some av => k av
   | none => none
  | none => none
 | _, _ => none
theorem part_run {P : Program} {T : TypeId} {off : Nat} {cells : List AV} {av : AV} {E : Env} {w : World} {vals : List Value} (h : take1 P T (cells.drop off) = some av) (hv : All2 (VB E w) cells vals) :
  ∃ v, VR E w av v ∧ ∀ w', (part T vals.toArray off).run P w' = .ok v w' := by
 unfold take1 at h
 split at h
 ·rename_i d i hd hi
  cases ha : aggD d with
  | true =>
   rw [ha] at h
   simp only [cond_true] at h
   cases hl : Nat.ble i.size (cells.drop off).length with
   | false => rw [hl] at h; cases h
   | true =>
    rw [hl] at h
    obtain rfl := Option.some.inj h
    refine ⟨.agg ((vals.drop off).take i.size).toArray, ⟨_, rfl, (hv.drop off).take _⟩, fun w' => ?_⟩
    simp only [part, Sem.run_bind, run_isAgg hd, ha, Result.andThen_ok, if_true, sizeOf, typeInfo, program, Sem.run, hi]
    simp [Sem.run, Sem.run_bind, hi, List.extract_eq_drop_take']
  | false =>
   rw [ha] at h
   simp only [cond_false] at h
   split at h
   ·rename_i c l hc
    obtain rfl := Option.some.inj h
    have hd' := hv.drop off
    rw [hc] at hd'
    match hm : vals.drop off, hd' with
    | u :: m, hd' =>
     refine ⟨u, hd'.1.r, fun w' => ?_⟩
     have hu : vals[off]? = some u := by
      have := List.getElem?_drop (xs := vals) (i := off) (j := 0)
      rw [hm] at this
      simpa using this.symm
     simp [part, Sem.run_bind, run_isAgg hd, ha, hu]
   ·cases h
 ·cases h
end
end Go.Vx
namespace Go.Vx
open Go.RowKit Go.Proofs.YtjnpcpnjcieheaaGreatW.PrintWords
set_option linter.unusedVariables false
set_option linter.unusedSimpArgs false
def splice {α : Type} (cells : List α) (off : Nat) (new : List α) : List α := cells.take off ++ new ++ cells.drop (off + new.length)
theorem splice_len {α : Type} {cells : List α} {off : Nat} {new : List α} (h : off + new.length ≤ cells.length) : (splice cells off new).length = cells.length := by
 simp [splice]; omega
theorem All2.splice {α β : Type} {R : α → β → Prop} {l : List α} {m : List β} {l' : List α} {m' : List β} (off : Nat) (h : All2 R l m) (h' : All2 R l' m') : All2 R (splice l off l') (splice m off m') := by
 unfold Vx.splice
 rw [h'.length]
 exact ((h.take off).append h').append (h.drop _)
theorem set_splice {α : Type} : ∀ (l : List α) (off : Nat) (x : α), off < l.length → l.set off x = l.take off ++ x :: l.drop (off + 1)
 | [], _, _, h => by simp at h
 | a :: l, 0, x, _ => by simp
 | a :: l, off + 1, x, h => by simp [set_splice l off x (by simpa using h)]
theorem foldl_set (off : Nat) : ∀ (vs : List Value) (k : Nat) (cur : Array Value), off + k + vs.length ≤ cur.size →
  ((vs.zipIdx k).foldl (fun cs (p : Value × Nat) => cs.setIfInBounds (off + p.2) p.1) cur).toList = splice cur.toList (off + k) vs
 | [], k, cur, _ => by simp [splice]
 | v :: vs, k, cur, h => by
  simp only [List.length_cons] at h
  simp only [List.zipIdx_cons, List.foldl_cons]
  rw [foldl_set off vs (k + 1) _ (by simp; omega)]
  simp only [Array.toList_setIfInBounds]
  have hlt : off + k < cur.toList.length := by simp; omega
  unfold splice
  rw [set_splice _ _ _ hlt, List.take_append, List.drop_append]
  have e1 : (cur.toList.take (off + k)).length = off + k := by simp; omega
  have e3 : off + (k + 1) - (cur.toList.take (off + k)).length = 1 := by rw [e1]; omega
  have e4 : off + (k + 1) + vs.length - (cur.toList.take (off + k)).length = vs.length + 1 := by rw [e1]; omega
  rw [e3, e4, List.take_of_length_le (l := cur.toList.take (off + k)) (by rw [e1]; omega), List.drop_of_length_le (l := cur.toList.take (off + k)) (by rw [e1]; omega)]
  simp only [List.take_succ_cons, List.take_zero, List.drop_succ_cons, List.nil_append, List.append_assoc, List.drop_drop, List.length_cons, List.singleton_append, List.cons_append]
  rw [show off + k + 1 + vs.length = off + k + (vs.length + 1) by omega]
def cellsA (s : St) : AV → Option (List AV)
 | .agg cs => some cs
 | .val (.agg cs) => some (cs.toList.map .val)
 | .val v => some [.val v]
 | .own t => match find t s.ents with
  | some _ => some [.own t]
  | none => none
 | .sh k xs => some [.sh k xs]
 | .ptr t o => some [.ptr t o]
 | .epo t i z o => some [.epo t i z o]
 | .fn f cs => some [.fn f cs]
 | .bm f cs => some [.bm f cs]
 | _ => none
theorem cells_noagg {v : Value} (h : ∀ cs, v ≠ .agg cs) : v.cells = #[v] := by
 cases v <;> first | rfl | exact absurd rfl (h _)
theorem EntOK.noagg {W0 : Base} {E : Env} {w : World} {v : Value} {e : Ent} (h : EntOK W0 E w v e) : ∀ cs, v ≠ .agg cs := by
 intro cs q
 subst q
 cases e with
 | row r =>
  obtain ⟨⟨_, ho, _⟩, _⟩ := h
  rcases ho.2 with ⟨q, _⟩ | ⟨_, _, _, q, _⟩ <;> cases q
 | box T cells => obtain ⟨b, vals, q, _⟩ := h; cases q
 | mp kd vd l => obtain ⟨b, es, clock, q, _⟩ := h; cases q
 | ghost d cells => obtain ⟨q, _⟩ := h; cases q
theorem cellsA_ok {W0 : Base} {E : Env} {s : St} {w : World} (hs : SimS W0 E s w) {av : AV} {v : Value} {cs : List AV} (h : cellsA s av = some cs) (hv : VR E w av v) : All2 (VB E w) cs v.cells.toList := by
 match av, h, hv with
 | .agg cells, h, hv =>
  obtain rfl := Option.some.inj h
  obtain ⟨vals, rfl, hc⟩ := hv
  exact hc
 | .val u, h, hv =>
  obtain rfl : v = u := hv
  cases v with
  | agg cells =>
   obtain rfl := Option.some.inj h
   show All2 (VB E w) _ cells.toList
   have := All2.map (R := VB E w) (fun v : Value => AV.val v) id (fun _ => rfl) cells.toList
   simpa using this
  | _ => obtain rfl := Option.some.inj h; exact ⟨rfl, trivial⟩
 | .own t, h, hv =>
  simp only [cellsA] at h
  split at h
  ·rename_i e he
   obtain rfl := Option.some.inj h
   obtain ⟨hu, hok⟩ := hs.ents _ _ he
   have hne : ∀ cs, v ≠ .agg cs := by rw [hv.2]; exact hok.noagg
   rw [cells_noagg hne]
   exact ⟨hv, trivial⟩
  ·cases h
 | .sh k xs, h, hv =>
  obtain rfl := Option.some.inj h
  have hv' := hv
  obtain ⟨A, c, e, _⟩ := hv'
  obtain rfl : v = _ := by injection e
  exact ⟨hv, trivial⟩
 | .ptr t o, h, hv =>
  obtain rfl := Option.some.inj h
  have hv' := hv
  obtain ⟨_, b, _, rfl⟩ := hv'
  exact ⟨hv, trivial⟩
 | .epo t i z o, h, hv =>
  obtain rfl := Option.some.inj h
  have hv' := hv
  obtain ⟨_, g, n, c, _, _, rfl⟩ := hv'
  exact ⟨hv, trivial⟩
 | .fn f cs', h, hv =>
  obtain rfl := Option.some.inj h
  have hv' := hv
  obtain ⟨vals, rfl, _⟩ := hv'
  exact ⟨hv, trivial⟩
 | .bm f cs', h, hv =>
  obtain rfl := Option.some.inj h
  have hv' := hv
  obtain ⟨vals, rfl, _⟩ := hv'
  exact ⟨hv, trivial⟩
def fillA (place : Nat → Option (Nat × Nat)) : List AV → List (Nat × List AV) → Option (List AV)
 | cells, [] => some cells
 | cells, (i, new) :: rest => match place i with
  | some (off, size) => bif Nat.beq new.length size && Nat.ble (off + new.length) cells.length then fillA place (splice cells off new) rest else none
  | none => none
theorem fillA_ok {E : Env} {w : World} {place : Nat → Option (Nat × Nat)} : ∀ {parts : List (Nat × List AV)} {partsV : List (Nat × Value)} {cells : List AV} {vals : Array Value} {out : List AV},
  All2 (fun p q => p.1 = q.1 ∧ All2 (VB E w) p.2 q.2.cells.toList) parts partsV → All2 (VB E w) cells vals.toList → fillA place cells parts = some out →
  ∃ outv, Instr.fill place vals partsV = some outv ∧ All2 (VB E w) out outv.toList
 | [], [], cells, vals, out, _, hc, h => ⟨vals, rfl, by obtain rfl := Option.some.inj h; exact hc⟩
 | (i, new) :: rest, (j, v) :: restV, cells, vals, out, hp, hc, h => by
  obtain ⟨⟨e, hn⟩, hp'⟩ := hp
  simp only at e hn
  subst e
  unfold fillA at h
  cases hpl : place i with
  | none => rw [hpl] at h; cases h
  | some q =>
   obtain ⟨off, size⟩ := q
   rw [hpl] at h
   simp only at h
   cases hb : Nat.beq new.length size && Nat.ble (off + new.length) cells.length with
   | false => rw [hb] at h; cases h
   | true =>
    rw [hb] at h
    simp only [Bool.and_eq_true] at hb
    have h1 : new.length = size := Nat.eq_of_beq_eq_true hb.1
    have h2 : off + new.length ≤ cells.length := Nat.le_of_ble_eq_true hb.2
    have hl := hc.length
    have hl2 := hn.length
    have hsz : v.cells.size = size := by rw [← Array.length_toList, ← hl2, h1]
    have hfold := foldl_set off v.cells.toList 0 vals (by rw [← hl2, ← Array.length_toList, ← hl]; omega)
    have hall : All2 (VB E w) (splice cells off new) ((v.cells.zipIdx.foldl (fun cs (p : Value × Nat) => cs.setIfInBounds (off + p.2) p.1) vals)).toList := by
     rw [← Array.foldl_toList, Array.toList_zipIdx, hfold]
     exact All2.splice off hc hn
    obtain ⟨outv, ho, hR⟩ := fillA_ok hp' hall h
    refine ⟨outv, ?_, hR⟩
    unfold Instr.fill
    simp only [hpl]
    rw [if_neg (by simp [hsz]; rw [← Array.length_toList, ← hl]; omega)]
    exact ho
 | [], _ :: _, _, _, _, hp, _, _ => hp.elim
 | _ :: _, [], _, _, _, hp, _, _ => hp.elim
end Go.Vx
namespace Go.Vx
open Go.RowKit Go.Proofs.YtjnpcpnjcieheaaGreatW.PrintWords
set_option linter.unusedVariables false
set_option linter.unusedSimpArgs false
section
variable {R : Type}
theorem qField_ok {P : Program} {o : Oper} {s : St} {T : TypeId} {x : Operand} {i : Nat} {k : AV → Option R} {r : R} (ho : o.op = .field T x i) (h : qField P s T x i k = some r) : QOk P o s k r := by
 unfold qField at h
 split at h
 ·rename_i cs fs hx hd
  split at h
  ·rename_i f hf
   split at h
   ·rename_i av ht
    refine ⟨_, h, QTo.pure fun W0 E a w hs => ?_⟩
    have := hs.ev x
    rw [hx] at this
    obtain ⟨vals, e, hc⟩ := this
    obtain ⟨v, hv, hr⟩ := part_run ht hc
    refine ⟨v, hv, fun w' _ => ?_⟩
    simp only [execOp, ho, e, Instr.field, Sem.run_bind, run_underlying hd, Result.andThen_ok, hf, asAgg, Sem.run_pure, hr w']
   ·cases h
  ·cases h
 ·cases h
noncomputable def qLoad (P : Program) (s : St) (T : TypeId) (x : Operand) (k : AV → Option R) : Option R :=
 match evl s x with
 | .ptr t off => match find t s.ents with
  | some (.box _ cells) => match take1 P T (cells.drop off) with
   | some av => k av
   | none => none
  | _ => none
 | .cp cells => match take1 P T cells with
  | some av => k av
  | none => none
 | .epo t i sz off => match find t s.ents with
  | some (.row r) => bif Nat.beq sz r.k.sz then (match take1 P T ((inj r.k (List.getD r.xs i r.k.dflt)).drop off) with
   | some av => k av
   | none => none) else none
  | _ => none
 | _ => none
theorem row_elem {W0 : Base} {E : Env} {w : World} {v : Value} {r : Row} {g n c i : Nat} (h : EntOK W0 E w v (.row r)) (hv : v = .slice (some ⟨g, 0, none⟩) n c) (hi : i < n) :
  ∃ vals, All2 (VB E w) (inj r.k (List.getD r.xs i r.k.dflt)) vals ∧ (∀ (j : Nat) (u : Value), vals[j]? = some u → w.cell? ⟨g, i * r.k.sz + j, none⟩ = some u) ∧ List.length r.xs = n ∧ Rd w E.F r.k (List.getD r.xs i r.k.dflt) vals := by
 obtain ⟨⟨cells, ho, hr⟩, _⟩ := h
 have hn : List.length r.xs = n := by
  rcases ho.2 with ⟨q, _⟩ | ⟨_, _, _, q, _⟩
  ·rw [hv] at q; cases q
  ·rw [hv] at q; injection q with _ q _; exact q.symm
 have hlt : i < List.length r.xs := by omega
 have hx : r.xs[i]? = some (List.getD r.xs i r.k.dflt) := by
  rw [List.getD_eq_getElem?_getD, List.getElem?_eq_getElem hlt]; rfl
 refine ⟨(cells.drop (i * r.k.sz)).take r.k.sz, inj_rd (hr.2 i _ hx), fun j u hu => ?_, hn, hr.2 i _ hx⟩
 subst hv
 have := ho.cells (g := g) rfl (i * r.k.sz + j) u (by
  rw [List.getElem?_take] at hu
  split at hu
  ·rw [List.getElem?_drop] at hu
   exact hu
  ·cases hu)
 rwa [add_plain] at this
theorem qLoad_ok {P : Program} {o : Oper} {s : St} {T : TypeId} {x : Operand} {k : AV → Option R} {r : R} (ho : o.op = .load T x) (h : qLoad P s T x k = some r) : QOk P o s k r := by
 unfold qLoad at h
 split at h
 ·rename_i t off hx
  split at h
  ·rename_i T' cells he
   split at h
   ·rename_i av ht
    refine ⟨_, h, QTo.pure fun W0 E a w hs => ?_⟩
    have := hs.ev x
    rw [hx] at this
    obtain ⟨hu, b, hvs, e⟩ := this
    obtain ⟨_, b', vals, hvs', h0, hF, hg, hc⟩ := hs.ents _ _ he
    rw [hvs] at hvs'
    obtain rfl : b = b' := by injection hvs' with q; injection q with q; injection q
    obtain ⟨v, hv, hr⟩ := take1_run (w' := w) (ad := ⟨b, off, none⟩) ht (hc.drop off)
    refine ⟨v, hv, fun w' hb => ?_⟩
    have hg' := (hb.block b (Go.Proofs.YtjnpcpnjcieheaaGreatW.PrintWords.blk_lt hg)).trans hg
    simp only [execOp, ho, e, Instr.loadAt, Sem.run_bind, Instr.sureAddr, Sem.run_pure, Result.andThen_ok]
    rw [hr w' (fun j u hj => by
     rw [add_off, cell_of_row w' b (off + j) vals T' (0, 0) hg', ← Array.getElem?_toList]
     rwa [List.getElem?_drop] at hj)]
    rfl
   ·cases h
  ·cases h
 ·rename_i cells hx
  split at h
  ·rename_i av ht
   refine ⟨_, h, QTo.pure fun W0 E a w hs => ?_⟩
   have := hs.ev x
   rw [hx] at this
   obtain ⟨ad, vals, e, hF, hc, hm⟩ := this
   obtain ⟨v, hv, hr⟩ := take1_run (w' := w) (ad := ad) ht hc
   refine ⟨v, hv, fun w' hb => ?_⟩
   simp only [execOp, ho, e, Instr.loadAt, Sem.run_bind, Instr.sureAddr, Sem.run_pure, Result.andThen_ok]
   rw [hr w' (fun j u hj => cell_same (by rw [add_block]; exact hb.block _ (hs.fz _ hF)) (hm j u hj))]
   rfl
  ·cases h
 ·rename_i t i sz off hx
  split at h
  ·rename_i rw_ he
   cases hsz : Nat.beq sz rw_.k.sz with
   | false => rw [hsz] at h; cases h
   | true =>
    rw [hsz] at h
    simp only [cond_true] at h
    obtain rfl := Nat.eq_of_beq_eq_true hsz
    split at h
    ·rename_i av ht
     refine ⟨_, h, QTo.pure fun W0 E a w hs => ?_⟩
     have := hs.ev x
     rw [hx] at this
     obtain ⟨hu, g, n, c, hvs, hi, e⟩ := this
     obtain ⟨_, hok⟩ := hs.ents _ _ he
     obtain ⟨vals, hc, hm, _, _⟩ := row_elem hok hvs hi
     obtain ⟨v, hv, hr⟩ := take1_run (w' := w) (ad := ⟨g, i * rw_.k.sz + off, none⟩) ht (hc.drop off)
     refine ⟨v, hv, fun w' hb => ?_⟩
     have hlt := (hok.blk_lt (b := g) (by rw [hvs]; rfl)).2
     simp only [execOp, ho, e, Instr.loadAt, Sem.run_bind, Instr.sureAddr, Sem.run_pure, Result.andThen_ok]
     rw [hr w' (fun j u hj => by
      rw [List.getElem?_drop] at hj
      have := hm (off + j) u hj
      rw [add_off, Nat.add_assoc]
      exact cell_same (hb.block g hlt) this)]
     rfl
    ·cases h
  ·cases h
 ·cases h
noncomputable def qFieldAddr (P : Program) (s : St) (T : TypeId) (x : Operand) (i : Nat) (k : AV → Option R) : Option R :=
 match P.underlying T with
 | some (.struct fs) => match fs[i]? with
  | some f => match P.info? f.type with
   | some inf => bif Nat.beq inf.size 0 then none else (match evl s x with
    | .ptr t off => k (.ptr t (off + f.offset))
    | .cp cells => k (.cp (cells.drop f.offset))
    | .epo t j sz off => k (.epo t j sz (off + f.offset))
    | _ => none)
   | none => none
  | none => none
 | _ => none
theorem fieldAt_run {P : Program} {T : TypeId} {fs : Array Field} {i : Nat} {f : Field} {inf : TypeInfo} (hd : P.underlying T = some (.struct fs)) (hf : fs[i]? = some f) (hi : P.info? f.type = some inf) (hz : Nat.beq inf.size 0 = false) (ad : Addr) (w : World) :
  (Instr.fieldAt T (.pointer (some ad)) i).run P w = .ok (.pointer (some (ad.add f.offset))) w := by
 have hz' : inf.size ≠ 0 := fun e => by rw [e] at hz; cases hz
 simp [Instr.fieldAt, run_underlying hd, hf, Instr.sureAddr, fieldPlace, sizeOf, typeInfo, hi, hz']
theorem add_add' (ad : Addr) (i j : Nat) : (ad.add i).add j = ad.add (i + j) := by
 unfold Addr.add
 by_cases hi : i = 0
 ·subst hi
  simp
 ·by_cases hj : j = 0
  ·subst hj
   simp
  ·rw [if_neg hj, if_neg hi, if_neg (by omega)]
   simp [Nat.add_assoc]
theorem qFieldAddr_ok {P : Program} {o : Oper} {s : St} {T : TypeId} {x : Operand} {i : Nat} {k : AV → Option R} {r : R} (ho : o.op = .fieldAddr T x i) (h : qFieldAddr P s T x i k = some r) : QOk P o s k r := by
 unfold qFieldAddr at h
 split at h
 ·rename_i fs hd
  split at h
  ·rename_i f hf
   split at h
   ·rename_i inf hi
    cases hz : Nat.beq inf.size 0 with
    | true => rw [hz] at h; cases h
    | false =>
     rw [hz] at h
     simp only [cond_false] at h
     split at h
     ·rename_i t off hx
      refine ⟨_, h, QTo.pure fun W0 E a w hs => ?_⟩
      have := hs.ev x
      rw [hx] at this
      obtain ⟨hu, b, hvs, e⟩ := this
      refine ⟨.pointer (some ⟨b, off + f.offset, none⟩), ⟨hu, b, hvs, rfl⟩, fun w' _ => ?_⟩
      simp only [execOp, ho, e, Sem.run_bind, fieldAt_run hd hf hi hz, Result.andThen_ok, Sem.run_pure, add_off]
     ·rename_i cells hx
      refine ⟨_, h, QTo.pure fun W0 E a w hs => ?_⟩
      have := hs.ev x
      rw [hx] at this
      obtain ⟨ad, vals, e, hF, hc, hm⟩ := this
      refine ⟨.pointer (some (ad.add f.offset)), ⟨ad.add f.offset, vals.drop f.offset, rfl, by rw [add_block]; exact hF, hc.drop _, fun j v hj => ?_⟩, fun w' _ => ?_⟩
      ·rw [add_add']
       rw [List.getElem?_drop] at hj
       exact hm _ v hj
      ·simp only [execOp, ho, e, Sem.run_bind, fieldAt_run hd hf hi hz, Result.andThen_ok, Sem.run_pure]
     ·rename_i t j sz off hx
      refine ⟨_, h, QTo.pure fun W0 E a w hs => ?_⟩
      have := hs.ev x
      rw [hx] at this
      obtain ⟨hu, g, n, c, hvs, hj, e⟩ := this
      refine ⟨.pointer (some ⟨g, j * sz + (off + f.offset), none⟩), ⟨hu, g, n, c, hvs, hj, rfl⟩, fun w' _ => ?_⟩
      simp only [execOp, ho, e, Sem.run_bind, fieldAt_run hd hf hi hz, Result.andThen_ok, Sem.run_pure, add_off, Nat.add_assoc]
     ·cases h
   ·cases h
  ·cases h
 ·cases h
def pickI : Nat → Nat → Int → (Nat → Option R) → Option R
 | 0, _, _, _ => none
 | m + 1, i, j, k => oif (j = (i : Int)) (k i) (pickI m (i + 1) j k)
theorem pickI_ok {j : Int} {k : Nat → Option R} {r : R} : ∀ {m i : Nat}, pickI m i j k = some r → ∃ q : Nat, j = (q : Int) ∧ i ≤ q ∧ q < i + m ∧ k q = some r
 | 0, _, h => by cases h
 | m + 1, i, h => by
  unfold pickI oif at h
  split at h
  ·rename_i hj
   exact ⟨i, hj, Nat.le_refl _, by omega, h⟩
  ·obtain ⟨q, h1, h2, h3, h4⟩ := pickI_ok h
   exact ⟨q, h1, by omega, by omega, h4⟩
noncomputable def qIndexAddr (P : Program) (s : St) (T : TypeId) (x i : Operand) (k : AV → Option R) : Option R :=
 match evl s i with
 | .val (.int _ j) => match P.underlying T with
  | some (.slice e) => match P.info? e with
   | some inf => match evl s x with
    | .sh ke xs => bif Nat.beq inf.size ke.sz then (oif (0 ≤ j) (oif (j < (List.length xs : Int)) (k (.cp (inj ke (List.getD xs j.toNat ke.dflt)))) none) none) else none
    | .own t => match find t s.ents with
     | some (.row r) => bif Nat.beq inf.size r.k.sz then (oif (0 ≤ j) (oif (j < (List.length r.xs : Int)) (k (.epo t j.toNat r.k.sz 0)) none) none) else none
     | _ => none
    | .cs n z cells => bif Nat.beq inf.size z then pickI n 0 j fun q => k (.cp (cells.drop (q * z))) else none
    | _ => none
   | none => none
  | some (.array n e) => match P.info? e with
   | some inf => match evl s x with
    | .ptr t off => oif (0 ≤ j) (oif (j < (n : Int)) (k (.ptr t (off + j.toNat * inf.size))) none) none
    | .cp cells => oif (0 ≤ j) (oif (j < (n : Int)) (k (.cp (cells.drop (j.toNat * inf.size)))) none) none
    | .epo t q sz off => oif (0 ≤ j) (oif (j < (n : Int)) (k (.epo t q sz (off + j.toNat * inf.size))) none) none
    | _ => none
   | none => none
  | _ => none
 | _ => none
theorem sh_elem {E : Env} {w : World} {ke : K} {xs : List ke.T} {u : Value} {j : Int} (h : VA E w (.sh ke xs) u) (h0 : 0 ≤ j) (h1 : j < (List.length xs : Int)) :
  ∃ ad c, u = .slice (some ad) (List.length xs) c ∧ VR E w (.cp (inj ke (List.getD xs j.toNat ke.dflt))) (.pointer (some (ad.add (j.toNat * ke.sz)))) := by
 obtain ⟨A, c, e, hc, hr, hF⟩ := h
 have hn : 0 < List.length xs := by omega
 obtain ⟨ad, rfl, hcells⟩ := hr.2.2 hn
 have hlt : j.toNat < List.length xs := by omega
 obtain ⟨cl, hl, hR, hm⟩ := hcells j.toNat (List.getD xs j.toNat ke.dflt) (by
  rw [List.getD_eq_getElem?_getD, show (show List ke.T from xs)[j.toNat]? = some _ from List.getElem?_eq_getElem hlt]; rfl)
 refine ⟨ad, c, by injection e, ad.add (j.toNat * ke.sz), cl, rfl, by rw [add_block]; exact hF hn _ rfl, inj_rd hR, fun i v hi => ?_⟩
 rw [add_add']
 exact hm i v hi
theorem qIndexAddr_ok {P : Program} {o : Oper} {s : St} {T : TypeId} {x i : Operand} {k : AV → Option R} {r : R} (ho : o.op = .indexAddr T x i) (h : qIndexAddr P s T x i k = some r) : QOk P o s k r := by
 unfold qIndexAddr oif at h
 split at h
 ·rename_i ki j hi
  have hiv : ∀ (W0 : Base) (E : Env) (a : Act) (w : World), Sim W0 E s a w → a.eval i = .int ki j := fun W0 E a w hs => by
   have := hs.ev i
   rw [hi] at this
   exact this
  split at h
  ·rename_i e hd
   have hel : P.elem T = e := by simp [Program.elem, hd]
   have hu : P.underlying T = some (.slice (P.elem T)) := by rw [hel]; exact hd
   split at h
   ·rename_i inf hinf
    split at h
    ·rename_i ke xs hx
     cases hsz : Nat.beq inf.size ke.sz with
     | false => rw [hsz] at h; cases h
     | true =>
      rw [hsz] at h
      have hsz' := Nat.eq_of_beq_eq_true hsz
      simp only [cond_true] at h
      split at h
      ·rename_i h0
       split at h
       ·rename_i h1
        refine ⟨_, h, QTo.pure fun W0 E a w hs => ?_⟩
        have := hs.ev x
        rw [hx] at this
        obtain ⟨ad, c, e1, hv⟩ := sh_elem this h0 h1
        refine ⟨_, hv, fun w' _ => ?_⟩
        simp only [execOp, ho, e1, hiv W0 E a w hs, Sem.run_bind, run_indexAt_slice w' T ad _ c ki j hu, if_pos (And.intro h0 h1), hel, sizeOf, typeInfo, Result.andThen_ok, Sem.run_pure]
        simp [hinf, hsz']
       ·cases h
      ·cases h
    ·rename_i t hx
     split at h
     ·rename_i rw_ he
      cases hsz : Nat.beq inf.size rw_.k.sz with
      | false => rw [hsz] at h; cases h
      | true =>
       rw [hsz] at h
       have hsz' := Nat.eq_of_beq_eq_true hsz
       simp only [cond_true] at h
       split at h
       ·rename_i h0
        split at h
        ·rename_i h1
         refine ⟨_, h, QTo.pure fun W0 E a w hs => ?_⟩
         have := hs.ev x
         rw [hx] at this
         obtain ⟨hut, e1⟩ := this
         obtain ⟨_, ⟨cells, hown, hreps⟩, hfz⟩ := hs.ents _ _ he
         have hn : 0 < List.length rw_.xs := by omega
         obtain ⟨g, cap, hvs, _, _⟩ := hown.form hn
         refine ⟨.pointer (some ⟨g, j.toNat * rw_.k.sz + 0, none⟩), ⟨hut, g, _, cap, hvs, by omega, rfl⟩, fun w' _ => ?_⟩
         rw [hvs] at e1
         simp only [execOp, ho, e1, hiv W0 E a w hs, Sem.run_bind, run_indexAt_slice w' T ⟨g, 0, none⟩ _ cap ki j hu, if_pos (And.intro h0 h1), hel, sizeOf, typeInfo, Result.andThen_ok, Sem.run_pure]
         simp [hinf, hsz', add_off]
        ·cases h
       ·cases h
     ·cases h
    ·rename_i n z cells hx
     cases hsz : Nat.beq inf.size z with
     | false => rw [hsz] at h; cases h
     | true =>
      rw [hsz] at h
      have hsz' := Nat.eq_of_beq_eq_true hsz
      simp only [cond_true] at h
      obtain ⟨q, hj, _, hq, hk⟩ := pickI_ok h
      refine ⟨_, hk, QTo.pure fun W0 E a w hs => ?_⟩
      have := hs.ev x
      rw [hx] at this
      obtain ⟨ad, cap, vals, e1, hF, hc, hm⟩ := this
      refine ⟨.pointer (some (ad.add (q * z))), ⟨_, vals.drop (q * z), rfl, by rw [add_block]; exact hF, hc.drop _, fun m v hv => ?_⟩, fun w' _ => ?_⟩
      ·rw [add_add']
       rw [List.getElem?_drop] at hv
       exact hm _ v hv
      ·have h0 : 0 ≤ j ∧ j < (n : Int) := by omega
       simp only [execOp, ho, e1, hiv W0 E a w hs, Sem.run_bind, run_indexAt_slice w' T _ n cap ki j hu, if_pos h0, hel, sizeOf, typeInfo, Result.andThen_ok, Sem.run_pure]
       simp [hinf, hsz', hj]
    ·cases h
   ·cases h
  ·rename_i n e hd
   have hel : P.elem T = e := by simp [Program.elem, hd]
   have hln : P.arrayLen T = n := by simp [Program.arrayLen, hd]
   have hu : P.underlying T = some (.array (P.arrayLen T) (P.elem T)) := by rw [hel, hln]; exact hd
   split at h
   ·rename_i inf hinf
    split at h
    ·rename_i t off hx
     split at h
     ·rename_i h0
      split at h
      ·rename_i h1
       refine ⟨_, h, QTo.pure fun W0 E a w hs => ?_⟩
       have := hs.ev x
       rw [hx] at this
       obtain ⟨hut, b, hvs, e1⟩ := this
       refine ⟨.pointer (some ⟨b, off + j.toNat * inf.size, none⟩), ⟨hut, b, hvs, rfl⟩, fun w' _ => ?_⟩
       simp only [execOp, ho, e1, hiv W0 E a w hs, Sem.run_bind, run_indexAt_array w' T _ ki j hu, hln, if_pos (And.intro h0 h1), hel, sizeOf, typeInfo, Result.andThen_ok, Sem.run_pure]
       simp [hinf, add_off]
      ·cases h
     ·cases h
    ·rename_i cells hx
     split at h
     ·rename_i h0
      split at h
      ·rename_i h1
       refine ⟨_, h, QTo.pure fun W0 E a w hs => ?_⟩
       have := hs.ev x
       rw [hx] at this
       obtain ⟨ad, vals, e1, hF, hc, hm⟩ := this
       refine ⟨.pointer (some (ad.add (j.toNat * inf.size))), ⟨_, vals.drop (j.toNat * inf.size), rfl, by rw [add_block]; exact hF, hc.drop _, fun m v hj => ?_⟩, fun w' _ => ?_⟩
       ·rw [add_add']
        rw [List.getElem?_drop] at hj
        exact hm _ v hj
       ·simp only [execOp, ho, e1, hiv W0 E a w hs, Sem.run_bind, run_indexAt_array w' T _ ki j hu, hln, if_pos (And.intro h0 h1), hel, sizeOf, typeInfo, Result.andThen_ok, Sem.run_pure]
        simp [hinf]
      ·cases h
     ·cases h
    ·rename_i t q sz off hx
     split at h
     ·rename_i h0
      split at h
      ·rename_i h1
       refine ⟨_, h, QTo.pure fun W0 E a w hs => ?_⟩
       have := hs.ev x
       rw [hx] at this
       obtain ⟨hut, g, m, c, hvs, hq, e1⟩ := this
       refine ⟨.pointer (some ⟨g, q * sz + (off + j.toNat * inf.size), none⟩), ⟨hut, g, m, c, hvs, hq, rfl⟩, fun w' _ => ?_⟩
       simp only [execOp, ho, e1, hiv W0 E a w hs, Sem.run_bind, run_indexAt_array w' T _ ki j hu, hln, if_pos (And.intro h0 h1), hel, sizeOf, typeInfo, Result.andThen_ok, Sem.run_pure]
       simp [hinf, add_off, Nat.add_assoc]
      ·cases h
     ·cases h
    ·cases h
   ·cases h
  ·cases h
 ·cases h
end
end Go.Vx
namespace Go.Vx
open Go.RowKit Go.Proofs.YtjnpcpnjcieheaaGreatW.PrintWords
set_option linter.unusedVariables false
set_option linter.unusedSimpArgs false
section
variable {R : Type}
theorem rd_take {w : World} {F : Nat → Prop} {e : K} {xs : List e.T} {A : Option Addr} {c m : Nat} (h : Rd w F (.slice e) xs [.slice A (List.length xs) c]) (hm : m ≤ List.length xs) : Rd w F (.slice e) (List.take m xs) [.slice A m c] := by
 obtain ⟨A', c', q, hc, hr, hF⟩ := h
 obtain ⟨rfl, rfl⟩ : A' = A ∧ c' = c := by injection q with q; injection q with q1 _ q2; exact ⟨q1.symm, q2.symm⟩
 have hl : (List.take m xs).length = m := by rw [List.length_take]; omega
 refine ⟨A', c', by rw [hl], by rw [hl]; omega, ?_, fun h0 ad ha => hF (by rw [hl] at h0; omega) ad ha⟩
 rw [hl]
 refine ⟨hl, by have := hr.2.1; omega, fun h0 => ?_⟩
 obtain ⟨ad, ha, hcells⟩ := hr.2.2 (by omega)
 refine ⟨ad, ha, fun j p hj => hcells j p ?_⟩
 rw [List.getElem?_take] at hj
 split at hj
 ·exact hj
 ·cases hj
theorem rd_drop {w : World} {F : Nat → Prop} {e : K} {xs : List e.T} {A : Option Addr} {c m : Nat} (h : Rd w F (.slice e) xs [.slice A (List.length xs) c]) (hm : m ≤ List.length xs) : Rd w F (.slice e) (List.drop m xs) [.slice (if c = m then A else A.map (·.add (m * e.sz))) (List.length xs - m) (c - m)] := by
 obtain ⟨A', c', q, hc, hr, hF⟩ := h
 obtain ⟨rfl, rfl⟩ : A' = A ∧ c' = c := by injection q with q; injection q with q1 _ q2; exact ⟨q1.symm, q2.symm⟩
 have hl : (List.drop m xs).length = List.length xs - m := by rw [List.length_drop]
 refine ⟨_, c' - m, by rw [hl], by rw [hl]; omega, ?_, fun h0 ad ha => ?_⟩
 ·rw [hl]
  refine ⟨hl, by have := hr.2.1; omega, fun h0 => ?_⟩
  obtain ⟨ad, ha, hcells⟩ := hr.2.2 (by omega)
  rw [if_neg (by omega), ha]
  refine ⟨ad.add (m * e.sz), rfl, fun j p hj => ?_⟩
  rw [List.getElem?_drop] at hj
  obtain ⟨cl, h1, h2, h3⟩ := hcells (m + j) p hj
  refine ⟨cl, h1, h2, fun i u hu => ?_⟩
  rw [add_add', ← Nat.add_assoc, ← Nat.add_mul]
  exact h3 i u hu
 ·rw [hl] at h0
  rw [if_neg (by omega)] at ha
  cases hA : A' with
  | none => rw [hA] at ha; cases ha
  | some a0 =>
   rw [hA] at ha
   obtain rfl := Option.some.inj ha
   show F (a0.add (m * e.sz)).block
   rw [add_block]
   exact hF (by omega) a0 hA
def asSh (s : St) : AV → Option Row
 | .sh k xs => some ⟨k, 0, true, xs⟩
 | .own t => match find t s.ents with
  | some (.row r) => bif r.fz then some r else none
  | _ => none
 | _ => none
theorem asSh_ok {W0 : Base} {E : Env} {s : St} {w : World} (hs : SimS W0 E s w) {av : AV} {u : Value} {r : Row} (h : asSh s av = some r) (hv : VR E w av u) : Rd w E.F (.slice r.k) r.xs [u] := by
 match av, h, hv with
 | .sh k xs, h, hv =>
  obtain rfl := Option.some.inj h
  exact hv
 | .own t, h, hv =>
  have h' : (match find t s.ents with
   | some (.row r) => bif r.fz then some r else none
   | _ => none) = some r := h
  cases he : find t s.ents with
  | none => rw [he] at h'; cases h'
  | some en =>
   cases en with
   | box T cells => rw [he] at h'; cases h'
   | mp kd vd l => rw [he] at h'; cases h'
   | ghost d cells => rw [he] at h'; cases h'
   | row r' =>
    rw [he] at h'
    simp only [] at h'
    cases hf : r'.fz with
    | false => rw [hf] at h'; cases h'
    | true =>
     rw [hf] at h'
     obtain rfl := Option.some.inj h'
     obtain ⟨_, hok⟩ := hs.ents _ _ he
     rw [hv.2]
     exact own_rd hok.1 (fun b hb => (hok.2 b hb).2 hf)
noncomputable def qSlice (P : Program) (s : St) (T : TypeId) (x : Operand) (lo hi : Option Operand) (k : AV → Option R) : Option R :=
 match P.underlying T with
 | some (.slice e) => match P.info? e with
  | some inf => match asSh s (evl s x) with
   | some ⟨ke, _, _, xs⟩ => bif Nat.beq inf.size ke.sz then (match lo, hi with
    | none, some h => match evl s h with
     | .val (.int _ j) => oif (0 ≤ j) (oif (j ≤ (List.length xs : Int)) (k (.sh ke (List.take j.toNat xs))) none) none
     | _ => none
    | some l, none => match evl s l with
     | .val (.int _ j) => oif (0 ≤ j) (oif (j ≤ (List.length xs : Int)) (k (.sh ke (List.drop j.toNat xs))) none) none
     | _ => none
    | some l, some h => match evl s l, evl s h with
     | .val (.int _ i), .val (.int _ j) => oif (0 ≤ i) (oif (i ≤ j) (oif (j ≤ (List.length xs : Int)) (k (.sh ke (List.take (j.toNat - i.toNat) (List.drop i.toNat xs)))) none) none) none
     | _, _ => none
    | none, none => k (.sh ke xs)) else none
   | _ => none
  | none => none
 | _ => none
theorem qSlice_ok {P : Program} {o : Oper} {s : St} {T : TypeId} {x : Operand} {lo hi : Option Operand} {k : AV → Option R} {r : R} (ho : o.op = .slice T x lo hi none) (h : qSlice P s T x lo hi k = some r) : QOk P o s k r := by
 unfold qSlice oif at h
 split at h
 ·rename_i e hd
  have hel : P.elem T = e := by simp [Program.elem, hd]
  have hu : P.underlying T = some (.slice (P.elem T)) := by rw [hel]; exact hd
  split at h
  ·rename_i inf hinf
   split at h
   ·rename_i ke T_ fz_ xs hx
    cases hsz : Nat.beq inf.size ke.sz with
    | false => rw [hsz] at h; cases h
    | true =>
     rw [hsz] at h
     have hsz' := Nat.eq_of_beq_eq_true hsz
     simp only [cond_true] at h
     have hxv : ∀ (W0 : Base) (E : Env) (a : Act) (w : World), Sim W0 E s a w → ∃ A c, a.eval x = .slice A (List.length xs) c ∧ List.length xs ≤ c ∧ Rd w E.F (.slice ke) xs [.slice A (List.length xs) c] := fun W0 E a w hs => by
      have h3 : Rd w E.F (.slice ke) xs [a.eval x] := asSh_ok hs.toSimS hx (hs.ev x)
      have h2 := h3
      obtain ⟨A, c, e1, hc, _⟩ := h2
      have e2 : a.eval x = .slice A (List.length xs) c := by injection e1
      rw [e2] at h3
      exact ⟨A, c, e2, hc, h3⟩
     split at h
     ·rename_i hh
      split at h
      ·rename_i kj j hj
       split at h
       ·rename_i h0
        split at h
        ·rename_i h1
         refine ⟨_, h, QTo.pure fun W0 E a w hs => ?_⟩
         obtain ⟨A, c, e1, hc, hR⟩ := hxv W0 E a w hs
         have e2 : a.eval hh = .int kj j := by have := hs.ev hh; rw [hj] at this; exact this
         refine ⟨_, rd_take (m := j.toNat) hR (by omega), fun w' _ => ?_⟩
         simp only [execOp, ho, e1, e2, Option.map_none, Option.map_some, Sem.run_bind, run_sliceAt_slice w' T _ _ _ _ hu, cut_to T e kj hd hinf A (List.length xs) c j h0 h1 hc w', Result.andThen_ok, Sem.run_pure]
        ·cases h
       ·cases h
      ·cases h
     ·rename_i ll
      split at h
      ·rename_i kj j hj
       split at h
       ·rename_i h0
        split at h
        ·rename_i h1
         refine ⟨_, h, QTo.pure fun W0 E a w hs => ?_⟩
         obtain ⟨A, c, e1, hc, hR⟩ := hxv W0 E a w hs
         have e2 : a.eval ll = .int kj j := by have := hs.ev ll; rw [hj] at this; exact this
         refine ⟨_, rd_drop (m := j.toNat) hR (by omega), fun w' _ => ?_⟩
         simp only [execOp, ho, e1, e2, Option.map_none, Option.map_some, Sem.run_bind, run_sliceAt_slice w' T _ _ _ _ hu, cut_from T e kj hd hinf ke.sz hsz' A (List.length xs) c j h0 h1 w', Result.andThen_ok, Sem.run_pure]
        ·cases h
       ·cases h
      ·cases h
     ·rename_i ll hh
      split at h
      ·rename_i ki i kj j hi hj
       split at h
       ·rename_i h0
        split at h
        ·rename_i h1
         split at h
         ·rename_i h2
          refine ⟨_, h, QTo.pure fun W0 E a w hs => ?_⟩
          obtain ⟨A, c, e1, hc, hR⟩ := hxv W0 E a w hs
          have e2 : a.eval ll = .int ki i := by have := hs.ev ll; rw [hi] at this; exact this
          have e3 : a.eval hh = .int kj j := by have := hs.ev hh; rw [hj] at this; exact this
          have hD := rd_drop (m := i.toNat) hR (by omega)
          have hl : (List.drop i.toNat xs).length = List.length xs - i.toNat := by rw [List.length_drop]
          rw [← hl] at hD
          refine ⟨_, rd_take (m := j.toNat - i.toNat) hD (by rw [hl]; omega), fun w' _ => ?_⟩
          simp only [execOp, ho, e1, e2, e3, Option.map_none, Option.map_some, Sem.run_bind, run_sliceAt_slice w' T _ _ _ _ hu, cut_mid T e ki kj hd hinf ke.sz hsz' A (List.length xs) c i j h0 h1 h2 hc w', Result.andThen_ok, Sem.run_pure]
         ·cases h
        ·cases h
       ·cases h
      ·cases h
     ·refine ⟨_, h, QTo.pure fun W0 E a w hs => ?_⟩
      obtain ⟨A, c, e1, hc, hR⟩ := hxv W0 E a w hs
      refine ⟨_, hR, fun w' _ => ?_⟩
      simp only [execOp, ho, e1, Option.map_none, Sem.run_bind, run_sliceAt_slice w' T _ _ _ _ hu]
      simp [Instr.slice, run_underlying hu, Instr.sliceBounds, sizeOf, typeInfo, hel, hinf, Result.andThen]
      intro hc0
      cases A with
      | none => rfl
      | some a0 => simp [Addr.add]
   ·cases h
  ·cases h
 ·cases h
def mget (x : Int) : List (Int × Int) → Option Int
 | [] => none
 | (a, b) :: l => if x = a then some b else mget x l
def mset (x y : Int) : List (Int × Int) → List (Int × Int)
 | [] => [(x, y)]
 | (a, b) :: l => if x = a then (x, y) :: l else (a, b) :: mset x y l
def mfind (x : Int) : List (Int × Int) → Nat → Option (Nat × Int)
 | [], _ => none
 | (a, b) :: l, i => if x = a then some (i, b) else mfind x l (i + 1)
theorem mfind_get (x : Int) : ∀ (l : List (Int × Int)) (i : Nat), (mfind x l i).map (·.2) = mget x l
 | [], _ => rfl
 | (a, b) :: l, i => by
  unfold mfind mget
  split
  ·rfl
  ·exact mfind_get x l (i + 1)
theorem findNow_int {kd vd kk : IntKind} (x : Int) : ∀ (es : List MapEntry) (l : List (Int × Int)) (i : Nat), es.map (fun e => (e.key, e.val)) = l.map (fun p => (Value.int kd p.1, Value.int vd p.2)) →
  Instr.findNow (.int kk) (.int kd x) es i = some ((mfind x l i).map fun p => (p.1, Value.int vd p.2))
 | [], [], _, _ => rfl
 | [], _ :: _, _, h => by simp at h
 | _ :: _, [], _, h => by simp at h
 | e :: es, (a, b) :: l, i, h => by
  simp only [List.map_cons, List.cons.injEq, Prod.mk.injEq] at h
  obtain ⟨⟨h1, h2⟩, h3⟩ := h
  unfold Instr.findNow mfind
  rw [h1]
  by_cases q : x = a
  ·simp [Instr.sameNow, q, h2]
  ·simp only [Instr.sameNow, if_true]
   rw [show (x == a) = false by simpa using q, if_neg q]
   exact findNow_int x es l (i + 1) h3
def asMp (s : St) : AV → Option (Nat × IntKind × IntKind × List (Int × Int))
 | .own t => match find t s.ents with
  | some (.mp kd vd l) => some (t, kd, vd, l)
  | _ => none
 | _ => none
theorem asMp_ok {W0 : Base} {E : Env} {s : St} {w : World} (hs : SimS W0 E s w) {av : AV} {u : Value} {t : Nat} {kd vd : IntKind} {l : List (Int × Int)} (h : asMp s av = some (t, kd, vd, l)) (hv : VR E w av u) :
  av = .own t ∧ u = E.vs t ∧ find t s.ents = some (.mp kd vd l) ∧ EntOK W0 E w (E.vs t) (.mp kd vd l) := by
 match av, h, hv with
 | .own t', h, hv =>
  have h' : (match find t' s.ents with
   | some (.mp kd vd l) => some (t', kd, vd, l)
   | _ => none) = some (t, kd, vd, l) := h
  cases he : find t' s.ents with
  | none => rw [he] at h'; cases h'
  | some en =>
   cases en with
   | box T cells => rw [he] at h'; cases h'
   | row r => rw [he] at h'; cases h'
   | ghost d cells => rw [he] at h'; cases h'
   | mp k1 k2 l1 =>
    rw [he] at h'
    simp only [Option.some.injEq, Prod.mk.injEq] at h'
    obtain ⟨rfl, rfl, rfl, rfl⟩ := h'
    exact ⟨rfl, hv.2, he, (hs.ents _ _ he).2⟩
noncomputable def qLookup (P : Program) (s : St) (T : TypeId) (x ix : Operand) (ok : Bool) (k : AV → Option R) : Option R :=
 match P.underlying T, asMp s (evl s x), evl s ix with
 | some (.map key el), some (_, kd, vd, l), .val (.int ki i) => match P.underlying key, P.info? el with
  | some (.int kk), some inf => match inf.zero with
   | some (.int zk 0) => if ki = kd ∧ kk = kd ∧ zk = vd then k (bif ok then .tup [.val (.int vd ((mget i l).getD 0)), .val (.bool (mget i l).isSome)] else .val (.int vd ((mget i l).getD 0))) else none
   | _ => none
  | _, _ => none
 | _, _, _ => none
theorem qLookup_ok {P : Program} {o : Oper} {s : St} {T : TypeId} {x ix : Operand} {ok : Bool} {k : AV → Option R} {r : R} (ho : o.op = .lookup T x ix ok) (h : qLookup P s T x ix ok k = some r) : QOk P o s k r := by
 unfold qLookup at h
 split at h
 ·rename_i key el t kd vd l ki i hT hm hi
  split at h
  ·rename_i kk inf hk hinf
   split at h
   ·rename_i zk hz
    split at h
    ·rename_i hc
     obtain ⟨rfl, rfl, rfl⟩ := hc
     refine ⟨_, h, QTo.pure fun W0 E a w hs => ?_⟩
     obtain ⟨_, e1, he, b, es, clock, hvs, h0, hF, hg, hes⟩ := asMp_ok hs.toSimS hm (hs.ev x)
     have e2 : a.eval x = .map (some b) := e1.trans hvs
     have e3 : a.eval ix = .int kk i := by have := hs.ev ix; rw [hi] at this; exact this
     have hlt := Go.Proofs.YtjnpcpnjcieheaaGreatW.PrintWords.blk_lt hg
     have hfn := findNow_int (kd := kk) (vd := zk) (kk := kk) i es.toList l 0 hes
     have hgt := mfind_get i l 0
     have hrun : ∀ w', Below w.heap.size w w' → (Instr.lookup T (a.eval x) (a.eval ix) ok).run P w' = .ok (if ok then .tuple #[.int zk ((mget i l).getD 0), .bool (mget i l).isSome] else .int zk ((mget i l).getD 0)) w' := fun w' hb => by
      have hg' : w'.heap[b]? = some (.map es clock) := (hb.block b hlt).trans hg
      rw [e2, e3]
      unfold Instr.lookup
      simp only [Sem.run_bind, run_underlying hT, Result.andThen_ok, MapKept.run_getObj_map hg', Sem.run_pure, MapKept.run_checkKey hk (k := .int kk i) rfl es.isEmpty 9999, MapKept.run_findKey hk hfn]
      cases hmf : mfind i l 0 with
      | none =>
       rw [hmf] at hgt
       simp only [Option.map_none] at hgt
       rw [← hgt]
       simp [zeroValue, typeInfo, hinf, hz]
      | some p =>
       rw [hmf] at hgt
       simp only [Option.map_some] at hgt
       rw [← hgt]
       simp
     cases ok with
     | true =>
      refine ⟨_, ⟨[_, _], rfl, rfl, rfl, trivial⟩, fun w' hb => ?_⟩
      have := hrun w' hb
      simp only [execOp, ho, Sem.run_bind, this, Result.andThen_ok]
      rfl
     | false =>
      refine ⟨_, rfl, fun w' hb => ?_⟩
      have := hrun w' hb
      simp only [execOp, ho, Sem.run_bind, this, Result.andThen_ok]
      rfl
    ·cases h
   ·cases h
  ·cases h
 ·cases h
noncomputable def qLen (P : Program) (s : St) (T : TypeId) (x : Operand) (k : AV → Option R) : Option R :=
 match P.underlying T with
 | some (.slice e) => match evl s x with
  | .sh ke xs => k (.val (.int .i64 (List.length xs : Int)))
  | .own t => match find t s.ents with
   | some (.row r) => k (.val (.int .i64 (List.length r.xs : Int)))
   | _ => none
  | .val (.slice none 0 0) => k (.val (.int .i64 0))
  | .cs n _ _ => k (.val (.int .i64 (n : Int)))
  | _ => none
 | some (.map _ _) => match asMp s (evl s x) with
  | some (_, _, _, l) => k (.val (.int .i64 (List.length l : Int)))
  | none => none
 | _ => none
theorem qLen_ok {P : Program} {o : Oper} {s : St} {T : TypeId} {x : Operand} {k : AV → Option R} {r : R} (ho : o.op = .call { callee := .builtin .len, args := #[x], argTypes := #[T] }) (h : qLen P s T x k = some r) : QOk P o s k r := by
 unfold qLen at h
 split at h
 ·rename_i e hd
  have hel : P.elem T = e := by simp [Program.elem, hd]
  have hu : P.underlying T = some (.slice (P.elem T)) := by rw [hel]; exact hd
  split at h
  ·rename_i ke xs hx
   refine ⟨_, h, QTo.pure fun W0 E a w hs => ⟨_, rfl, fun w' _ => ?_⟩⟩
   have := hs.ev x
   rw [hx] at this
   obtain ⟨A, c, e1, _⟩ := this
   have e2 : a.eval x = .slice A (List.length xs) c := by injection e1
   simp [execOp, ho, resolve, invoke, builtin, e2, run_len_slice w' T o.type A _ c hu, goInt]
  ·rename_i t hx
   split at h
   ·rename_i rw_ he
    refine ⟨_, h, QTo.pure fun W0 E a w hs => ⟨_, rfl, fun w' _ => ?_⟩⟩
    have := hs.ev x
    rw [hx] at this
    obtain ⟨_, ⟨cells, hown, _⟩, _⟩ := hs.ents _ _ he
    obtain ⟨A, c, hv⟩ := own_slice hown
    have e2 : a.eval x = .slice A (List.length rw_.xs) c := this.2.trans hv
    simp [execOp, ho, resolve, invoke, builtin, e2, run_len_slice w' T o.type A _ c hu, goInt]
   ·cases h
  ·rename_i hx
   refine ⟨_, h, QTo.pure fun W0 E a w hs => ⟨_, rfl, fun w' _ => ?_⟩⟩
   have e2 : a.eval x = .slice none 0 0 := by have := hs.ev x; rw [hx] at this; exact this
   simp [execOp, ho, resolve, invoke, builtin, e2, run_len_slice w' T o.type none 0 0 hu, goInt]
  ·rename_i n z cells hx
   refine ⟨_, h, QTo.pure fun W0 E a w hs => ⟨_, rfl, fun w' _ => ?_⟩⟩
   have := hs.ev x
   rw [hx] at this
   obtain ⟨ad, cap, vals, e2, _⟩ := this
   simp [execOp, ho, resolve, invoke, builtin, e2, run_len_slice w' T o.type _ n cap hu, goInt]
  ·cases h
 ·rename_i key el hT
  split at h
  ·rename_i t kd vd l hm
   refine ⟨_, h, QTo.pure fun W0 E a w hs => ⟨_, rfl, fun w' hb => ?_⟩⟩
   obtain ⟨_, e1, he, b, es, clock, hvs, h0, hF, hg, hes⟩ := asMp_ok hs.toSimS hm (hs.ev x)
   have e2 : a.eval x = .map (some b) := e1.trans hvs
   have hg' : w'.heap[b]? = some (.map es clock) := (hb.block b (Go.Proofs.YtjnpcpnjcieheaaGreatW.PrintWords.blk_lt hg)).trans hg
   have hlen : es.size = l.length := by
    have := congrArg List.length hes
    simpa using this
   have hrun : (Builtin.len_ #[T] o.type #[.map (some b)]).run P w' = .ok (.int .i64 (l.length : Int)) w' := by
    simp [Builtin.len_, run_underlying hT, MapKept.run_getObj_map hg', Result.andThen, hlen, goInt]
   simp [execOp, ho, resolve, invoke, builtin, e2, hrun]
  ·cases h
 ·cases h
def mnF (x y : Int) : Int := if y < x then y else x
def mxF (x y : Int) : Int := if y > x then y else x
noncomputable def qMin (least : Bool) (s : St) (x y : Operand) (k : AV → Option R) : Option R :=
 match evl s x, evl s y with
 | .val (.int kx a), .val (.int _ b) => k (.val (.int kx (bif least then mnF a b else mxF a b)))
 | _, _ => none
theorem qMin_ok {P : Program} {o : Oper} {s : St} {x y : Operand} {ats : Array TypeId} {k : AV → Option R} {r : R} {least : Bool} (ho : o.op = .call { callee := .builtin (bif least then .min else .max), args := #[x, y], argTypes := ats }) (h : qMin least s x y k = some r) : QOk P o s k r := by
 unfold qMin at h
 split at h
 ·rename_i kx a ky b hx hy
  refine ⟨_, h, QTo.pure fun W0 E ac w hs => ⟨_, rfl, fun w' _ => ?_⟩⟩
  have e1 : ac.eval x = .int kx a := by have := hs.ev x; rw [hx] at this; exact this
  have e2 : ac.eval y = .int ky b := by have := hs.ev y; rw [hy] at this; exact this
  cases least <;> simp [execOp, ho, resolve, invoke, builtin, e1, e2, Builtin.min_, Builtin.max_, Builtin.min2, Builtin.max2, mnF, mxF]
 ·cases h
noncomputable def partsA (s : St) : List (Nat × Operand) → Option (List (Nat × List AV))
 | [] => some []
 | (i, x) :: l => match cellsA s (evl s x), partsA s l with
  | some cs, some m => some ((i, cs) :: m)
  | _, _ => none
theorem partsA_ok {W0 : Base} {E : Env} {s : St} {a : Act} {w : World} (hs : Sim W0 E s a w) : ∀ {l : List (Nat × Operand)} {m : List (Nat × List AV)}, partsA s l = some m →
  All2 (fun p q => p.1 = q.1 ∧ All2 (VB E w) p.2 q.2.cells.toList) m (l.map fun (p : Nat × Operand) => (p.1, a.eval p.2))
 | [], m, h => by obtain rfl := Option.some.inj h; trivial
 | (i, x) :: l, m, h => by
  unfold partsA at h
  split at h
  ·rename_i cs m' hc hm
   obtain rfl := Option.some.inj h
   exact ⟨⟨rfl, cellsA_ok hs.toSimS hc (hs.ev x)⟩, partsA_ok hs hm⟩
  ·cases h
def placesA (P : Program) (T : TypeId) : Option (List AV × (Nat → Option (Nat × Nat))) :=
 match P.info? T, P.underlying T with
 | some it, some (.array _ e) => match it.zero, P.info? e with
  | some z, some ie => some (z.cells.toList.map .val, fun i => some (i * ie.size, ie.size))
  | _, _ => none
 | some it, some (.struct fields) => match it.zero, fields.toList.mapM (fun f => (P.info? f.type).map fun i => (f.offset, i.size)) with
  | some z, some places => some (z.cells.toList.map .val, fun i => places.toArray[i]?)
  | _, _ => none
 | _, _ => none
noncomputable def qBuild (P : Program) (s : St) (T : TypeId) (parts : Array (Nat × Operand)) (k : AV → Option R) : Option R :=
 match placesA P T, partsA s parts.toList with
 | some (z, pl), some ps => match fillA pl z ps with
  | some out => k (.agg out)
  | none => none
 | _, _ => none
theorem qBuild_ok {P : Program} {o : Oper} {s : St} {T : TypeId} {parts : Array (Nat × Operand)} {k : AV → Option R} {r : R} (ho : o.op = .build T parts) (h : qBuild P s T parts k = some r) : QOk P o s k r := by
 unfold qBuild at h
 split at h
 ·rename_i z pl ps hpl hps
  split at h
  ·rename_i out hout
   refine ⟨_, h, QTo.pure fun W0 E a w hs => ?_⟩
   have hparts := partsA_ok hs hps
   have hz : ∃ zv : Value, z = zv.cells.toList.map .val ∧ ∀ (vs : List (Nat × Value)) (c : Array Value), Instr.fill pl zv.cells vs = some c → P.built T vs = some c := by
    unfold placesA at hpl
    split at hpl
    ·rename_i it n e hi hd
     split at hpl
     ·rename_i z0 ie hz0 hie
      obtain ⟨rfl, rfl⟩ := Prod.mk.inj (Option.some.inj hpl)
      exact ⟨z0, rfl, fun vs c hc => by unfold Program.built; simp only [hi, hd, hz0, hie]; exact hc⟩
     ·cases hpl
    ·rename_i it fields hi hd
     split at hpl
     ·rename_i z0 places hz0 hpp
      obtain ⟨rfl, rfl⟩ := Prod.mk.inj (Option.some.inj hpl)
      exact ⟨z0, rfl, fun vs c hc => by unfold Program.built; simp only [hi, hd, hz0, hpp]; exact hc⟩
     ·cases hpl
    ·cases hpl
   obtain ⟨zv, rfl, hb⟩ := hz
   have hzc : All2 (VB E w) (zv.cells.toList.map AV.val) zv.cells.toList := by
    have := All2.map (R := VB E w) (fun v : Value => AV.val v) id (fun _ => rfl) zv.cells.toList
    simpa using this
   obtain ⟨outv, hf, hR⟩ := fillA_ok hparts hzc hout
   refine ⟨.agg outv, ⟨outv.toList, by simp, hR⟩, fun w' _ => ?_⟩
   have hbt := hb _ _ hf
   have e2 : (parts.map fun (p : Nat × Operand) => (p.1, a.eval p.2)).toList = parts.toList.map fun (p : Nat × Operand) => (p.1, a.eval p.2) := by simp
   rw [← e2] at hbt
   simp only [execOp, ho, Sem.run_bind]
   rw [show (parts.map fun (x : Nat × Operand) => match x with | (i, x) => (i, a.eval x)) = parts.map fun (p : Nat × Operand) => (p.1, a.eval p.2) from rfl, run_build w' T _ outv hbt]
   rfl
  ·cases h
 ·cases h
def isA : AV → Bool
 | .val _ => true
 | .own _ => true
 | .sh _ _ => true
 | .ptr _ _ => true
 | .epo _ _ _ _ => true
 | _ => false
theorem VR.a {E : Env} {w : World} {av : AV} {v : Value} (h : VR E w av v) (ha : isA av = true) : VA E w av v := by
 cases av <;> first | exact h | cases ha
noncomputable def qMakeFunc (s : St) (fn : Fn) (first captured : Array Operand) (k : AV → Option R) : Option R :=
 match fn, first.toList with
 | .func f, [] => bif captured.toList.all (fun x => isA (evl s x)) then k (.fn f (captured.toList.map (evl s))) else none
 | .func f, x :: l => bif captured.isEmpty && (x :: l).all (fun x => isA (evl s x)) then k (.bm f ((x :: l).map (evl s))) else none
 | _, _ => none
theorem qMakeFunc_ok {P : Program} {o : Oper} {s : St} {fn : Fn} {first captured : Array Operand} {k : AV → Option R} {r : R} (ho : o.op = .makeFunc fn first captured) (h : qMakeFunc s fn first captured k = some r) : QOk P o s k r := by
 unfold qMakeFunc at h
 split at h
 ·rename_i f hf
  cases ha : captured.toList.all (fun x => isA (evl s x)) with
  | false => rw [ha] at h; cases h
  | true =>
   rw [ha] at h
   refine ⟨_, h, QTo.pure fun W0 E a w hs => ⟨.func (.func f) #[] (captured.map a.eval), ⟨captured.toList.map a.eval, by rw [← Array.toList_map, Array.toArray_toList], ?_⟩, fun w' _ => ?_⟩⟩
   ·have : ∀ l : List Operand, l.all (fun x => isA (evl s x)) = true → All2 (VA E w) (l.map (evl s)) (l.map a.eval) := by
     intro l
     induction l with
     | nil => intro _; trivial
     | cons x l ih =>
      intro hl
      simp only [List.all_cons, Bool.and_eq_true] at hl
      exact ⟨(hs.ev x).a hl.1, ih hl.2⟩
    exact this _ ha
   ·have hfi : first = #[] := by
     cases first with
     | mk l => simp at hf; rw [hf]
    simp [execOp, ho, Instr.makeFunc, hfi]
 ·rename_i f x0 l0 hf
  cases ha : captured.isEmpty && (x0 :: l0).all (fun x => isA (evl s x)) with
  | false => rw [ha] at h; cases h
  | true =>
   rw [ha] at h
   rw [Bool.and_eq_true] at ha
   have hce : captured = #[] := Array.isEmpty_iff.1 ha.1
   refine ⟨_, h, QTo.pure fun W0 E a w hs => ⟨.func (.func f) (first.map a.eval) #[], ⟨first.toList.map a.eval, by rw [← Array.toList_map, Array.toArray_toList], ?_⟩, fun w' _ => ?_⟩⟩
   ·have : ∀ l : List Operand, l.all (fun x => isA (evl s x)) = true → All2 (VA E w) (l.map (evl s)) (l.map a.eval) := by
     intro l
     induction l with
     | nil => intro _; trivial
     | cons x l ih =>
      intro hl
      simp only [List.all_cons, Bool.and_eq_true] at hl
      exact ⟨(hs.ev x).a hl.1, ih hl.2⟩
    rw [hf]
    exact this _ ha.2
   ·simp [execOp, ho, Instr.makeFunc, hce]
 ·cases h
noncomputable def qNil (s : St) (x : Operand) (k : AV → Option R) : Option R :=
 match evl s x with
 | .ptr t o => k (.ptr t o)
 | .cp cs => k (.cp cs)
 | .epo t i z o => k (.epo t i z o)
 | .fn f cs => k (.fn f cs)
 | .bm f cs => k (.bm f cs)
 | _ => none
theorem qNil_ok {P : Program} {o : Oper} {s : St} {x : Operand} {k : AV → Option R} {r : R} (ho : o.op = .nilCheck x) (h : qNil s x k = some r) : QOk P o s k r := by
 unfold qNil at h
 split at h
 ·rename_i t off hx
  refine ⟨_, h, QTo.pure fun W0 E a w hs => ⟨_, by have := hs.ev x; rw [hx] at this; exact this, fun w' _ => ?_⟩⟩
  have := hs.ev x; rw [hx] at this
  obtain ⟨_, b, _, e⟩ := this
  simp [execOp, ho, e]
 ·rename_i cs hx
  refine ⟨_, h, QTo.pure fun W0 E a w hs => ⟨_, by have := hs.ev x; rw [hx] at this; exact this, fun w' _ => ?_⟩⟩
  have := hs.ev x; rw [hx] at this
  obtain ⟨ad, vals, e, _⟩ := this
  simp [execOp, ho, e]
 ·rename_i t i z off hx
  refine ⟨_, h, QTo.pure fun W0 E a w hs => ⟨_, by have := hs.ev x; rw [hx] at this; exact this, fun w' _ => ?_⟩⟩
  have := hs.ev x; rw [hx] at this
  obtain ⟨_, g, n, c, _, _, e⟩ := this
  simp [execOp, ho, e]
 ·rename_i f cs hx
  refine ⟨_, h, QTo.pure fun W0 E a w hs => ⟨_, by have := hs.ev x; rw [hx] at this; exact this, fun w' _ => ?_⟩⟩
  have := hs.ev x; rw [hx] at this
  obtain ⟨vals, e, _⟩ := this
  simp [execOp, ho, e]
 ·rename_i f cs hx
  refine ⟨_, h, QTo.pure fun W0 E a w hs => ⟨_, by have := hs.ev x; rw [hx] at this; exact this, fun w' _ => ?_⟩⟩
  have := hs.ev x; rw [hx] at this
  obtain ⟨vals, e, _⟩ := this
  simp [execOp, ho, e]
 ·cases h
end
end Go.Vx
namespace Go.Vx
open Go.RowKit Go.Proofs.YtjnpcpnjcieheaaGreatW.PrintWords
set_option linter.unusedVariables false
set_option linter.unusedSimpArgs false
section
variable {R : Type}
def cell1 (s : St) : AV → Option AV
 | .val (.agg _) => none
 | .agg _ => none
 | av => match cellsA s av with
  | some [c] => some c
  | _ => none
theorem cell1_ok {W0 : Base} {E : Env} {s : St} {w : World} (hs : SimS W0 E s w) {av c : AV} {v : Value} (h : cell1 s av = some c) (hv : VR E w av v) : VB E w c v := by
 have key : cellsA s av = some [c] → (∀ cs, v ≠ .agg cs) → VB E w c v := fun hc hne => by
  have := cellsA_ok hs hc hv
  rw [cells_noagg hne] at this
  exact this.1
 match av, h, hv with
 | .val u, h, hv =>
  obtain rfl : v = u := hv
  have hne : ∀ cs, v ≠ .agg cs := by
   intro cs e
   subst e
   cases h
  have hc : cellsA s (.val v) = some [c] := by
   have h' : (match cellsA s (.val v) with | some [c] => some c | _ => none) = some c := by
    cases v <;> first | exact h | exact absurd rfl (hne _)
   split at h'
   ·rename_i c' hc
    rw [hc, Option.some.inj h']
   ·cases h'
  exact key hc hne
 | .own t, h, hv =>
  have h' : (match cellsA s (.own t) with | some [c] => some c | _ => none) = some c := h
  split at h'
  ·rename_i c' hc
   obtain rfl := Option.some.inj h'
   refine key hc ?_
   simp only [cellsA] at hc
   split at hc
   ·rename_i e he
    obtain ⟨_, hok⟩ := hs.ents _ _ he
    rw [hv.2]
    exact hok.noagg
   ·cases hc
  ·cases h'
 | .sh k xs, h, hv =>
  obtain rfl : c = .sh k xs := (Option.some.inj h).symm
  exact hv
 | .ptr t o, h, hv =>
  obtain rfl : c = .ptr t o := (Option.some.inj h).symm
  exact hv
 | .epo t i z o, h, hv =>
  obtain rfl : c = .epo t i z o := (Option.some.inj h).symm
  exact hv
 | .fn f cs, h, hv =>
  obtain rfl : c = .fn f cs := (Option.some.inj h).symm
  exact hv
 | .bm f cs, h, hv =>
  obtain rfl : c = .bm f cs := (Option.some.inj h).symm
  exact hv
def flatA (s : St) : List (Option Nat) → List AV → Option (List AV)
 | [], [] => some []
 | none :: l, av :: m => match cell1 s av, flatA s l m with
  | some c, some cs => some (c :: cs)
  | _, _ => none
 | some n :: l, av :: m => match av, cellsA s av, flatA s l m with
  | .agg _, some c, some cs => bif Nat.beq c.length n then some (c ++ cs) else none
  | .val (.agg _), some c, some cs => bif Nat.beq c.length n then some (c ++ cs) else none
  | _, _, _ => none
 | _, _ => none
theorem flatA_ok {W0 : Base} {E : Env} {s : St} {w : World} (hs : SimS W0 E s w) : ∀ {l : List (Option Nat)} {m : List AV} {vs : List Value} {cells : List AV}, flatA s l m = some cells → All2 (VR E w) m vs →
  ∃ vals, All2 (VB E w) cells vals ∧ joinA l vals = vs
 | [], [], [], cells, h, _ => ⟨[], by obtain rfl := Option.some.inj h; trivial, rfl⟩
 | none :: l, av :: m, v :: vs, cells, h, hv => by
  simp only [flatA] at h
  split at h
  ·rename_i c cs h1 h2
   obtain rfl := Option.some.inj h
   obtain ⟨vals, hc, hj⟩ := flatA_ok hs h2 hv.2
   exact ⟨v :: vals, ⟨cell1_ok hs h1 hv.1, hc⟩, by simp only [joinA, hj]⟩
  ·cases h
 | some n :: l, av :: m, v :: vs, cells, h, hv => by
  have key : ∀ (c cs : List AV) (arr : Array Value), v = .agg arr → cellsA s av = some c → flatA s l m = some cs → (bif Nat.beq c.length n then some (c ++ cs) else none) = some cells →
    ∃ vals, All2 (VB E w) cells vals ∧ joinA (some n :: l) vals = v :: vs := fun c cs arr e h1 h2 h3 => by
   cases hb : Nat.beq c.length n with
   | false => rw [hb] at h3; cases h3
   | true =>
    rw [hb] at h3
    obtain rfl := Option.some.inj h3
    obtain ⟨vals, hc, hj⟩ := flatA_ok hs h2 hv.2
    have h4 := cellsA_ok hs h1 hv.1
    subst e
    have hl : arr.toList.length = n := by
     rw [← Nat.eq_of_beq_eq_true hb]
     exact h4.length.symm
    refine ⟨arr.toList ++ vals, h4.append hc, ?_⟩
    simp only [joinA]
    rw [← hl, List.take_left, List.drop_left, hj, Array.toArray_toList]
  simp only [flatA] at h
  split at h
  ·obtain ⟨vals, e, _⟩ := hv.1
   exact key _ _ vals.toArray e (by assumption) (by assumption) h
  ·exact key _ _ _ hv.1 (by assumption) (by assumption) h
  ·cases h
def plainA : (k : K) → k.T → List AV
 | .int k, x => [.val (.int k x)]
 | .bool, x => [.val (.bool x)]
 | .str, x => [.val (.string x)]
 | .pair a b, x => plainA a x.1 ++ plainA b x.2
 | _, _ => []
def plainAs : (l : List Item) → itemsT l → List AV
 | [], _ => []
 | [.im k], x => plainA k x
 | .im k :: b :: l, x => plainA k x.1 ++ plainAs (b :: l) x.2
 | _, _ => []
theorem plainA_ok {E : Env} {w : World} : ∀ (k : K) (x : k.T), All2 (VB E w) (plainA k x) (plainV k x)
 | .int _, _ => ⟨rfl, trivial⟩
 | .bool, _ => ⟨rfl, trivial⟩
 | .str, _ => ⟨rfl, trivial⟩
 | .pair a b, x => (plainA_ok a x.1).append (plainA_ok b x.2)
 | .slice _, _ => trivial
 | .unit, _ => trivial
theorem plainAs_ok {E : Env} {w : World} : ∀ (l : List Item) (x : itemsT l), All2 (VB E w) (plainAs l x) (plainVs l x)
 | [], _ => trivial
 | [.im k], x => plainA_ok k x
 | .im k :: b :: l, x => (plainA_ok k x.1).append (plainAs_ok (b :: l) x.2)
 | [.own _ _], _ => trivial
 | .own _ _ :: _ :: _, _ => trivial
def joinAV : List (Option Nat) → List AV → List AV
 | [], _ => []
 | none :: l, c :: cs => c :: joinAV l cs
 | none :: _, [] => []
 | some n :: l, cs => .agg (cs.take n) :: joinAV l (cs.drop n)
theorem joinAV_ok {E : Env} {w : World} : ∀ {l : List (Option Nat)} {cells : List AV} {vals : List Value}, All2 (VB E w) cells vals → All2 (VC E w) (joinAV l cells) (joinA l vals)
 | [], _, _, _ => trivial
 | none :: l, c :: cs, v :: vs, h => ⟨h.1.c, joinAV_ok h.2⟩
 | none :: l, [], [], h => trivial
 | none :: l, [], _ :: _, h => h.elim
 | none :: l, _ :: _, [], h => h.elim
 | some n :: l, cs, vs, h => ⟨⟨vs.take n, rfl, h.take n⟩, joinAV_ok (h.drop n)⟩
noncomputable def retA : Ret → List AV → AV
 | .one none, cs => nth cs 0
 | .one (some n), cs => .agg (cs.take n)
 | .tup l, cs => .tup (joinAV l cs)
theorem retA_ok {E : Env} {w : World} (rt : Ret) {cells : List AV} {vals : List Value} (h : All2 (VB E w) cells vals) : VR E w (retA rt cells) (rt.val vals) := by
 match rt, cells, vals, h with
 | .one none, [], [], h => trivial
 | .one none, c :: cs, v :: vs, h => exact h.1.r
 | .one (some n), cells, vals, h => exact ⟨vals.take n, rfl, h.take n⟩
 | .tup l, cells, vals, h => exact ⟨joinA l vals, rfl, joinAV_ok h⟩
theorem run_call {P : Program} {f : FuncId} {fn : Func} (h1 : P.funcs[f]? = some fn) (h2 : fn.body.isSome = true) (h3 : (fn.name == "runtime.NumGoroutine") = false) {a : Act} {o : Oper} {fo : Operand} {args : Array Operand} {ats : Array TypeId} (ho : o.op = .call { callee := .value fo, args := args, argTypes := ats }) {caps : Array Value} (hf : a.eval fo = .func (.func f) #[] caps) (w : World) :
  (execOp a.eval o).run P w = .ok (.enter f (args.map a.eval ++ caps)) w := by
 have h2' : fn.body.isNone = false := by cases hb : fn.body <;> simp_all
 simp only [execOp, ho, resolve, hf, Deferred.ofValue, Sem.run_bind, Sem.run_pure, Result.andThen_ok, invoke, callFunc, program, Sem.run]
 simp [h1, h2', h3]
theorem run_callB {P : Program} {f : FuncId} {fn : Func} (h1 : P.funcs[f]? = some fn) (h2 : fn.body.isSome = true) (h3 : (fn.name == "runtime.NumGoroutine") = false) {a : Act} {o : Oper} {fo : Operand} {args : Array Operand} {ats : Array TypeId} (ho : o.op = .call { callee := .value fo, args := args, argTypes := ats }) {pre : Array Value} (hf : a.eval fo = .func (.func f) pre #[]) (w : World) :
  (execOp a.eval o).run P w = .ok (.enter f (pre ++ args.map a.eval)) w := by
 have h2' : fn.body.isNone = false := by cases hb : fn.body <;> simp_all
 simp only [execOp, ho, resolve, hf, Deferred.ofValue, Sem.run_bind, Sem.run_pure, Result.andThen_ok, invoke, callFunc, program, Sem.run]
 simp [h1, h2', h3]
theorem evls_ok {W0 : Base} {E : Env} {s : St} {a : Act} {w : World} (hs : Sim W0 E s a w) : ∀ l : List Operand, All2 (VR E w) (l.map (evl s)) (l.map a.eval)
 | [] => trivial
 | x :: l => ⟨hs.ev x, evls_ok hs l⟩
noncomputable def qCall (fns : Fns) (s : St) (fo : Operand) (args : Array Operand) (k : AV → Option R) : Option R :=
 match evl s fo with
 | .fn f [] => match fns.get f with
  | some sp => bif plainI sp.items then (match flatA s sp.shape (args.toList.map (evl s)) with
   | some cells => match prj s true sp.argK cells with
    | some x => obd (sp.run x) fun r => k (retA sp.ret (plainAs sp.items r))
    | none => none
   | none => none) else none
  | none => none
 | _ => none
theorem qCall_ok {P : Program} {fns : Fns} (hg : fns.good P) {o : Oper} {s : St} {fo : Operand} {args : Array Operand} {ats : Array TypeId} {k : AV → Option R} {r : R} (ho : o.op = .call { callee := .value fo, args := args, argTypes := ats }) (h : qCall fns s fo args k = some r) : QOk P o s k r := by
 unfold qCall at h
 split at h
 ·rename_i f hf
  split at h
  ·rename_i sp hsp
   cases hp : plainI sp.items with
   | false => rw [hp] at h; cases h
   | true =>
    rw [hp] at h
    simp only [cond_true] at h
    split at h
    ·rename_i cells hcells
     split at h
     ·rename_i x hx
      obtain ⟨y, hy, hk⟩ := Option.bind_eq_some_iff.1 h
      refine ⟨_, hk, fun W0 E a w hs => ?_⟩
      obtain ⟨hen, hends⟩ := hg f sp hsp
      obtain ⟨fn, e1, e2, e3⟩ := hen
      have hfo : a.eval fo = .func (.func f) #[] #[] := by
       have := hs.ev fo
       rw [hf] at this
       obtain ⟨vals, e, hc⟩ := this
       match vals, hc with
       | [], _ => exact e
      obtain ⟨vals, hc, hj⟩ := flatA_ok hs.toSimS hcells (evls_ok hs args.toList)
      have hargs : args.map a.eval ++ #[] = (joinA sp.shape vals).toArray := by
       rw [hj, Array.append_empty, ← Array.toList_map, Array.toArray_toList]
      have hR := prj_rd hs.toSimS (F := fun b => b < w.heap.size) (fun b hb => hs.fz b hb) (fun _ b hb => hb) hx hc
      refine ⟨sp.ret.val (plainVs sp.items y), retA_ok sp.ret (plainAs_ok sp.items y), fun w' hb => ?_⟩
      unfold Oper.quietAt
      rw [run_call e1 e2 e3 ho hfo w', hargs]
      refine ⟨rfl, (hends x y hy w' (fun b => b < w.heap.size) vals (fun b hlt => Nat.lt_of_lt_of_le hlt hb.size) (Rd.step (fun b hlt => hb.block b hlt) (fun _ q => q) hR)).mono ?_⟩
      rintro e w2 ⟨rc, F', rfl, hb2, _, hri, _⟩
      exact ⟨by rw [RIs.plainVs hp hri], below_then hb hb.size hb2⟩
     ·cases h
    ·cases h
  ·cases h
 ·cases h
def mayAlike (P : Program) (t u : TypeId) : Bool :=
 Nat.beq t u || match ((P.info? t).map (·.desc) : Option TypeDesc), ((P.info? u).map (·.desc) : Option TypeDesc) with
  | some (.struct fs), some (.struct gs) => Nat.beq fs.size gs.size && (match fs.toList, gs.toList with
   | f :: _, g :: _ => f.name == g.name
   | _, _ => true)
  | some (.struct _), _ => false
  | _, some (.struct _) => false
  | _, _ => true
theorem mayAlike_ok {P : Program} {n : Nat} {t u : TypeId} (h : P.alikeButTags (n + 1) t u = true) : mayAlike P t u = true := by
 unfold mayAlike
 cases hb : Nat.beq t u with
 | true => rfl
 | false =>
  rw [Bool.false_or]
  unfold Program.alikeButTags at h
  have hne : (t == u) = false := by rw [beq_eq_false_iff_ne]; exact Nat.ne_of_beq_eq_false hb
  rw [hne, Bool.false_or] at h
  generalize ((P.info? t).map (·.desc) : Option TypeDesc) = dt at h ⊢
  generalize ((P.info? u).map (·.desc) : Option TypeDesc) = du at h ⊢
  rcases dt with _ | dt
  ·exact absurd (show false = true by cases du <;> exact h) Bool.false_ne_true
  ·rcases du with _ | du
   ·exact absurd (show false = true by cases dt <;> exact h) Bool.false_ne_true
   ·cases dt <;> cases du <;> first | rfl | exact absurd (show false = true from h) Bool.false_ne_true | skip
    rename_i fs gs
    have h' : (fs.size == gs.size && (fs.zip gs).all fun (f, g) => f.name == g.name && f.embedded == g.embedded && f.pkgPath == g.pkgPath && P.alikeButTags n f.type g.type) = true := h
    rw [Bool.and_eq_true] at h'
    obtain ⟨h3, h4⟩ := h'
    show (Nat.beq fs.size gs.size && _) = true
    rw [Bool.and_eq_true]
    refine ⟨by have := eq_of_beq h3; rw [this]; exact Nat.beq_refl _, ?_⟩
    obtain ⟨fs⟩ := fs
    obtain ⟨gs⟩ := gs
    cases fs with
    | nil => rfl
    | cons f fl => cases gs with
     | nil => rfl
     | cons g gl =>
      show (f.name == g.name) = true
      rw [← Array.all_toList, Array.toList_zip] at h4
      have h5 := List.all_eq_true.1 h4 (f, g) (by simp [List.zip_cons_cons])
      simp only [Bool.and_eq_true] at h5
      exact h5.1.1.1
def heldX (P : Program) (T : TypeId) : Bool := P.cutTypes.toList.any fun c => mayAlike P (P.underlyingId c.2) (P.underlyingId T)
theorem heldX_ok {P : Program} {T : TypeId} (h : heldX P T = false) : P.stoodInHeld T = false := by
 unfold heldX at h
 rw [List.any_eq_false] at h
 unfold Program.stoodInHeld Program.stoodInAs
 have e : (P.cutTypes.toList.filter fun c => P.alikeButTags P.depth (P.underlyingId c.2) (P.underlyingId T)) = [] := by
  rw [List.filter_eq_nil_iff]
  intro c hc hq
  exact h c hc (mayAlike_ok (n := P.depth - 1) (by rw [show P.depth - 1 + 1 = P.depth by unfold Program.depth Made.depth; omega]; exact hq))
 rw [e]
 split <;> rfl
section
variable (P : Program) (f : TypeId → AV → AV → Option Bool)
def eqFs (cx cy : List AV) : List Field → Option Bool
 | [] => some true
 | fd :: fs => bif fd.name == "_" then eqFs cx cy fs else (match take1 P fd.type (cx.drop fd.offset), take1 P fd.type (cy.drop fd.offset) with
  | some a, some b => match f fd.type a b, fs with
   | some p, [] => some p
   | some p, fs => match eqFs cx cy fs with
    | some q => some (p && q)
    | none => none
   | none, _ => none
  | _, _ => none)
def eqEs (cx cy : List AV) (e sz : Nat) : Nat → Nat → Option Bool
 | 0, _ => some true
 | m + 1, i => match take1 P e (cx.drop (i * sz)), take1 P e (cy.drop (i * sz)) with
  | some a, some b => match f e a b, m with
   | some p, 0 => some p
   | some p, m => match eqEs cx cy e sz m (i + 1) with
    | some q => some (p && q)
    | none => none
   | none, _ => none
  | _, _ => none
end
def eqV (P : Program) : Nat → TypeId → AV → AV → Option Bool
 | 0, _, _, _ => none
 | d + 1, T, x, y => match P.underlying T with
  | some (.int _) => (match x, y with
   | .val (.int k a), .val (.int k' b) => if k = k' then some (a == b) else none
   | _, _ => none)
  | some .bool => (match x, y with
   | .val (.bool a), .val (.bool b) => some (a == b)
   | _, _ => none)
  | some (.struct fs) => (match x, y with
   | .agg cx, .agg cy => bif heldX P T then none else eqFs P (eqV P d) cx cy fs.toList
   | _, _ => none)
  | some (.array n e) => (match x, y with
   | .agg cx, .agg cy => (match P.info? e with
    | some i => eqEs P (eqV P d) cx cy e i.size n 0
    | none => none)
   | _, _ => none)
  | _ => none
def eqList {α : Type} (g : α → Sem Bool) : List α → Sem Bool
 | [] => pure true
 | a :: l => do
  let r ← g a
  if (!r) = true then pure false else eqList g l
theorem run_equalIn_array {P : Program} (w : World) (d : Nat) (t n e : Nat) (i : TypeInfo) (xs ys : Array Value) (ht : P.underlying t = some (.array n e)) (hi : P.info? e = some i) :
  (Op.equalIn (d + 1) t (.agg xs) (.agg ys)).run P w = (eqList (fun j => do Op.equalIn d e (← part e xs (j * i.size)) (← part e ys (j * i.size))) (List.range' 0 n)).run P w := by
 simp only [Op.equalIn, Sem.run_bind, run_underlying ht, Result.andThen_ok, sizeOf, typeInfo, program, Sem.run, hi]
 simp only [Sem.run_bind, Sem.run_pure, Result.andThen_ok, Std.Legacy.Range.forIn_eq_forIn_range', Std.Legacy.Range.size, Nat.sub_zero, Nat.add_sub_cancel, Nat.div_one]
 generalize List.range' 0 n = l
 clear ht hi
 induction l generalizing w with
 | nil => simp [eqList]
 | cons j l ih =>
  simp only [List.forIn_cons, eqList, Sem.run_bind, Sem.run_ite]
  generalize (part e xs (j * i.size)).run P w = r1
  cases r1 with
  | ok a w1 =>
   simp only [Result.andThen_ok]
   generalize (part e ys (j * i.size)).run P w1 = r2
   cases r2 with
   | ok b w2 =>
    simp only [Result.andThen_ok]
    generalize (Op.equalIn d e a b).run P w2 = r3
    cases r3 with
    | ok r w3 =>
     cases r
     ·simp only [Result.andThen_ok, Bool.not_false, if_true, Sem.run_pure]
     ·simp only [Result.andThen_ok, Bool.not_true, Bool.false_eq_true, if_false, Sem.run_pure]
      exact ih w3
    | halt x w3 => simp [Result.andThen]
   | halt x w2 => simp [Result.andThen]
  | halt x w1 => simp [Result.andThen]
theorem eqV_ok {P : Program} {E : Env} {w : World} (D : Nat) : ∀ (d : Nat) (T : TypeId) (x y : AV) (b : Bool) (u v : Value), eqV P d T x y = some b → VR E w x u → VR E w y v → ∀ w', (Op.equalIn (D + d) T u v).run P w' = .ok b w'
 | 0, T, x, y, b, u, v, h, _, _, _ => by cases h
 | d + 1, T, x, y, b, u, v, h, hx, hy, w' => by
  have ih := eqV_ok (P := P) (E := E) (w := w) D d
  unfold eqV at h
  split at h
  ·rename_i k0 ht
   split at h
   ·rename_i k a k' c
    split at h
    ·rename_i hk
     subst hk
     obtain rfl := Option.some.inj h
     rw [show u = _ from hx, show v = _ from hy]
     exact run_equalIn_int w' (D + d) T k k0 a c ht
    ·cases h
   ·cases h
  ·rename_i ht
   split at h
   ·rename_i a c
    obtain rfl := Option.some.inj h
    rw [show u = _ from hx, show v = _ from hy]
    exact run_equalIn_bool' w' (D + d) T a c ht
   ·cases h
  ·rename_i fs ht
   split at h
   ·rename_i cx cy
    cases hpx : heldX P T with
    | true => rw [hpx] at h; cases h
    | false =>
     have hp := heldX_ok hpx
     rw [hpx] at h
     simp only [cond_false] at h
     obtain ⟨vx, rfl, hvx⟩ := hx
     obtain ⟨vy, rfl, hvy⟩ := hy
     have hf : P.fieldsOf T = fs := by simp [Program.fieldsOf, ht]
     show (Op.equalIn (D + d + 1) T (.agg vx.toArray) (.agg vy.toArray)).run P w' = _
     rw [run_equalIn_struct (P := P) w' (D + d) T _ _ (by rw [hf]; exact ht) hp, hf]
     generalize fs.toList = l at h
     clear ht hp hf
     induction l generalizing b with
     | nil => obtain rfl := Option.some.inj h; simp [Op.eqFields]
     | cons fd l il =>
      unfold eqFs at h
      cases hn : fd.name == "_" with
      | true =>
       rw [hn] at h
       have hn' : ¬ (fd.name ≠ "_") := by simpa using hn
       rw [Op.eqFields, if_neg hn']
       exact il b h
      | false =>
       rw [hn] at h
       have hn' : fd.name ≠ "_" := by simpa using hn
       simp only [cond_false] at h
       split at h
       ·rename_i a c ha hc
        obtain ⟨pa, ha1, ha2⟩ := part_run ha hvx
        obtain ⟨pc, hc1, hc2⟩ := part_run hc hvy
        have step : ∀ p, eqV P d fd.type a c = some p → (Op.eqFields (D + d) vx.toArray vy.toArray (fd :: l)).run P w' = (if p = true then (Op.eqFields (D + d) vx.toArray vy.toArray l).run P w' else .ok false w') := fun p hp => by
         rw [Op.eqFields, if_pos hn']
         simp only [Sem.run_bind, ha2, hc2, Result.andThen_ok, ih _ _ _ _ _ _ hp ha1 hc1 w']
         cases p <;> simp
        cases hp : eqV P d fd.type a c with
        | none => rw [hp] at h; cases h
        | some p =>
         rw [hp] at h
         rw [step p hp]
         cases l with
         | nil =>
          obtain rfl : p = b := Option.some.inj h
          cases p <;> simp [Op.eqFields]
         | cons gd l =>
          have h' : (match eqFs P (eqV P d) cx cy (gd :: l) with
           | some q => some (p && q)
           | none => none) = some b := h
          split at h'
          ·rename_i q hq
           obtain rfl := Option.some.inj h'
           rw [il q hq]
           cases p <;> simp
          ·cases h'
       ·cases h
   ·cases h
  ·rename_i n e ht
   split at h
   ·rename_i cx cy
    split at h
    ·rename_i i hi
     obtain ⟨vx, rfl, hvx⟩ := hx
     obtain ⟨vy, rfl, hvy⟩ := hy
     show (Op.equalIn (D + d + 1) T (.agg vx.toArray) (.agg vy.toArray)).run P w' = _
     rw [run_equalIn_array (P := P) w' (D + d) T n e i _ _ ht hi]
     clear ht hi
     generalize 0 = i0 at h ⊢
     induction n generalizing b i0 with
     | zero => obtain rfl := Option.some.inj h; simp [eqList]
     | succ n il =>
      unfold eqEs at h
      split at h
      ·rename_i a c ha hc
       obtain ⟨pa, ha1, ha2⟩ := part_run ha hvx
       obtain ⟨pc, hc1, hc2⟩ := part_run hc hvy
       have step : ∀ p, eqV P d e a c = some p → (eqList (fun j => do Op.equalIn (D + d) e (← part e vx.toArray (j * i.size)) (← part e vy.toArray (j * i.size))) (List.range' i0 (n + 1))).run P w' = (if p = true then (eqList (fun j => do Op.equalIn (D + d) e (← part e vx.toArray (j * i.size)) (← part e vy.toArray (j * i.size))) (List.range' (i0 + 1) n)).run P w' else .ok false w') := fun p hp => by
        rw [List.range'_succ, eqList]
        simp only [Sem.run_bind, ha2, hc2, Result.andThen_ok, ih _ _ _ _ _ _ hp ha1 hc1 w']
        cases p <;> simp
       cases hp : eqV P d e a c with
       | none => rw [hp] at h; cases h
       | some p =>
        rw [hp] at h
        rw [step p hp]
        cases n with
        | zero =>
         obtain rfl : p = b := Option.some.inj h
         cases p <;> simp [eqList]
        | succ n =>
         have h' : (match eqEs P (eqV P d) cx cy e i.size (n + 1) (i0 + 1) with
          | some q => some (p && q)
          | none => none) = some b := h
         split at h'
         ·rename_i q hq
          obtain rfl := Option.some.inj h'
          rw [il q _ hq]
          cases p <;> simp
         ·cases h'
      ·cases h
    ·cases h
   ·cases h
  ·cases h
def noIf (P : Program) : Nat → TypeId → Bool
 | 0, _ => false
 | d + 1, t => match P.underlying t with
  | some (.interface _) => false
  | some (.struct fs) => fs.toList.all fun f => noIf P d f.type
  | some (.array _ e) => noIf P d e
  | _ => true
theorem noIf_ok {P : Program} : ∀ (d : Nat) (t : TypeId) (D : Nat), d ≤ D → noIf P d t = true → P.eqGuardType D t = false
 | 0, t, D, _, h => by cases h
 | d + 1, t, 0, hD, _ => absurd hD (by omega)
 | d + 1, t, D + 1, hD, h => by
  have ih := fun u hu => noIf_ok (P := P) d u D (by omega) hu
  unfold noIf at h
  unfold Program.eqGuardType
  split at h
  ·cases h
  ·rename_i fs hu
   rw [hu]
   show (fs.any fun f => f.name != "_" && P.eqGuardType D f.type) = false
   rw [← Array.any_toList, List.any_eq_false]
   intro f hf
   rw [List.all_eq_true] at h
   rw [ih _ (h f hf)]; simp
  ·rename_i n e hu
   rw [hu]
   exact ih e h
  ·rename_i h1 h2 h3
   cases hu : P.underlying t with
   | none => rfl
   | some x =>
    cases x <;> first | rfl | exact absurd hu (h1 _) | exact absurd hu (h2 _) | exact absurd hu (h3 _ _)
theorem noIf_depth {P : Program} {t : TypeId} (h : noIf P 20 t = true) : P.eqGuardType P.depth t = false := noIf_ok 20 t _ (by unfold Program.depth Made.depth; omega) h
noncomputable def qEq (P : Program) (neg : Bool) (o : Oper) (s : St) (T : TypeId) (x y : Operand) (k : AV → Option R) : Option R :=
 match evl s x with
 | .agg cx => (match evl s y with
  | .agg cy => bif !noIf P 20 T then none else (match eqV P 20 T (.agg cx) (.agg cy) with
   | some b => k (.val (.bool (bif neg then !b else b)))
   | none => none)
  | _ => none)
 | _ => qCalm P o s k
theorem qEq_ok {P : Program} {o : Oper} {s : St} {neg : Bool} {T U : TypeId} {x y : Operand} {k : AV → Option R} {r : R} (ho : o.op = .binOp (bif neg then .neq else .eql) T x y U) (h : qEq P neg o s T x y k = some r) : QOk P o s k r := by
 unfold qEq at h
 split at h
 ·rename_i cx hcx
  split at h
  ·rename_i cy hcy
   cases hg0 : noIf P 20 T with
   | false => rw [hg0] at h; cases h
   | true =>
    rw [hg0] at h
    simp only [Bool.not_true, cond_false] at h
    have hg := noIf_depth hg0
    split at h
    ·rename_i b hb
     refine ⟨_, h, QTo.pure fun W0 E ac w hs => ⟨_, rfl, fun w' _ => ?_⟩⟩
     have e1 := hs.ev x
     have e2 := hs.ev y
     rw [hcx] at e1
     rw [hcy] at e2
     have heq := eqV_ok (P := P) (E := E) (w := w) 9980 20 T _ _ b _ _ hb e1 e2
     obtain ⟨vx, hvx, _⟩ := e1
     obtain ⟨vy, hvy, _⟩ := e2
     rw [hvx, hvy] at heq
     have heq' : ∀ w', (Op.equalIn 10000 T (.agg vx.toArray) (.agg vy.toArray)).run P w' = .ok b w' := heq
     cases neg with
     | false =>
      have ho' : o.op = .binOp .eql T x y U := ho
      simp [execOp, ho', hvx, hvy, Sem.run_bind, run_eqGuard_agg w' .eql T x y _ _ hg, run_eql_struct, heq']
     | true =>
      have ho' : o.op = .binOp .neq T x y U := ho
      simp [execOp, ho', hvx, hvy, Sem.run_bind, run_eqGuard_agg w' .neq T x y _ _ hg, run_neq_struct, heq']
    ·cases h
  ·cases h
 ·exact qCalm_ok (fun cs b e => by cases neg <;> rw [e] at ho <;> cases ho) h
noncomputable def opq (P : Program) (fns : Fns) (o : Oper) (s : St) (k : AV → Option R) : Option R :=
 match o.op with
 | .move x => qMove s x k
 | .assign x => qMove s x k
 | .pick c x y => qPick s c x y k
 | .binOp .quo _ x y _ => qDiv .quo s x y k
 | .binOp .rem _ x y _ => qDiv .rem s x y k
 | .binOp .shl _ x y _ => qShift .shl s x y k
 | .binOp .shr _ x y _ => qShift .shr s x y k
 | .binOp .eql T x y _ => qEq P false o s T x y k
 | .binOp .neq T x y _ => qEq P true o s T x y k
 | .binOp .. => qCalm P o s k
 | .unOp .. => qCalm P o s k
 | .convert .. => qCalm P o s k
 | .index .. => qCalm P o s k
 | .extract x i => qExtract s x i k
 | .lookup T x ix ok => qLookup P s T x ix ok k
 | .field T x i => qField P s T x i k
 | .load T x => qLoad P s T x k
 | .fieldAddr T x i => qFieldAddr P s T x i k
 | .indexAddr T x i => qIndexAddr P s T x i k
 | .slice T x lo hi none => qSlice P s T x lo hi k
 | .build T parts => qBuild P s T parts k
 | .makeFunc fn first captured => qMakeFunc s fn first captured k
 | .nilCheck x => qNil s x k
 | .call { callee := .builtin .len, args := ⟨[x]⟩, argTypes := ⟨[T]⟩ } => qLen P s T x k
 | .call { callee := .builtin .min, args := ⟨[x, y]⟩, argTypes := _ } => qMin true s x y k
 | .call { callee := .builtin .max, args := ⟨[x, y]⟩, argTypes := _ } => qMin false s x y k
 | .call { callee := .value fo, args := args, argTypes := _ } => qCall fns s fo args k
 | _ => none
theorem opq_ok {P : Program} {fns : Fns} (hg : fns.good P) {o : Oper} {s : St} {k : AV → Option R} {r : R} (h : opq P fns o s k = some r) : QOk P o s k r := by
 unfold opq at h
 split at h
 all_goals rename_i ho
 all_goals first
  | exact qMove_ok (.inl ho) h
  | exact qMove_ok (.inr ho) h
  | exact qPick_ok ho h
  | exact qDiv_ok ho (.inl rfl) h
  | exact qDiv_ok ho (.inr rfl) h
  | exact qShift_ok ho (.inl rfl) h
  | exact qShift_ok ho (.inr rfl) h
  | exact qEq_ok (neg := false) ho h
  | exact qEq_ok (neg := true) ho h
  | exact qExtract_ok ho h
  | exact qLookup_ok ho h
  | exact qField_ok ho h
  | exact qLoad_ok ho h
  | exact qFieldAddr_ok ho h
  | exact qIndexAddr_ok ho h
  | exact qSlice_ok ho h
  | exact qBuild_ok ho h
  | exact qMakeFunc_ok ho h
  | exact qNil_ok ho h
  | exact qLen_ok ho h
  | exact qMin_ok (least := true) ho h
  | exact qMin_ok (least := false) ho h
  | exact qCall_ok hg ho h
  | (cases h; done)
  | exact qCalm_ok (fun cs b e => by rw [e] at ho; cases ho) h
  | skip
 all_goals exact qCalm_ok (fun cs b e => by simp_all) h
end
end Go.Vx
namespace Go.Vx
open Go.RowKit Go.Proofs.YtjnpcpnjcieheaaGreatW.PrintWords
set_option linter.unusedVariables false
set_option linter.unusedSimpArgs false
section
variable {R : Type}
structure Fr (o : Oper) (s s' : St) (E : Env) (a : Act) (w : World) (E' : Env) (a' : Act) (w' : World) : Prop where
 stp : Stp E w E' w'
 act : ∃ v, a' = a.put o.dst v
 size : w.heap.size ≤ w'.heap.size
 mem : ∀ b, b < w.heap.size → (∀ t e, find t s.ents = some e → blk (E.vs t) ≠ some b) → w'.heap[b]? = w.heap[b]?
 new : ∀ t e b, find t s'.ents = some e → blk (E'.vs t) = some b → w.heap.size ≤ b ∨ ∃ t0 e0, find t0 s.ents = some e0 ∧ blk (E.vs t0) = some b
 fz : ∀ b, E'.F b → E.F b ∨ w.heap.size ≤ b ∨ ∃ t0 e0, find t0 s.ents = some e0 ∧ blk (E.vs t0) = some b
 tags : ∀ t, E'.U t → E.U t ∨ s.nx ≤ t
theorem put_ents (s : St) (d : Option Tmp) (x : AV) : (s.put d x).ents = s.ents := by cases d <;> rfl
theorem put_nx (s : St) (d : Option Tmp) (x : AV) : (s.put d x).nx = s.nx := by cases d <;> rfl
theorem Fr.quiet {W0 : Base} {o : Oper} {s s' : St} {E : Env} {a : Act} {w w' : World} (hs : Sim W0 E s a w) (hb : Below w.heap.size w w') (he : s'.ents = s.ents) (v : Value) : Fr o s s' E a w E (a.put o.dst v) w' :=
 ⟨⟨fun _ _ => rfl, fun _ q => q, fun _ q => q, fun b q => hb.block b (hs.fz b q)⟩, ⟨v, rfl⟩, hb.size, fun b hl _ => hb.block b hl, fun t e b ht hbk => .inr ⟨t, e, by rw [← he]; exact ht, hbk⟩, fun b q => .inl q, fun t q => .inl q⟩
theorem Fr.fresh {W0 : Base} {o : Oper} {s s' : St} {E : Env} {a : Act} {w w' : World} (hs : Sim W0 E s a w) (hb : Below w.heap.size w w') {e : Ent} {u : Value} (he : s'.ents = (s.nx, e) :: s.ents) (hnew : ∀ b, blk u = some b → w.heap.size ≤ b) (v : Value) :
  Fr o s s' E a w (E.add s.nx u E.F) (a.put o.dst v) w' := by
 have hn : ¬ E.U s.nx := fun q => Nat.lt_irrefl _ (hs.used _ q)
 refine ⟨Stp.add hn (fun _ q => q) (fun b q => hb.block b (hs.fz b q)), ⟨v, rfl⟩, hb.size, fun b hl _ => hb.block b hl, fun t e' b ht hbk => ?_, fun b q => .inl q, fun t q => ?_⟩
 ·rw [he] at ht
  simp only [find] at ht
  simp only [Env.add] at hbk
  by_cases q : t = s.nx
  ·rw [if_pos q] at hbk
   exact .inl (hnew b hbk)
  ·rw [beq_ne q] at ht
   rw [if_neg q] at hbk
   exact .inr ⟨t, e', ht, hbk⟩
 ·rcases q with q | rfl
  ·exact .inl q
  ·exact .inr (Nat.le_refl _)
structure Gz (s s1 : St) (E E1 : Env) : Prop where
 vs : E1.vs = E.vs
 U : E1.U = E.U
 nx : s1.nx = s.nx
 keys : ∀ t e, find t s1.ents = some e → ∃ e0, find t s.ents = some e0
 sub : ∀ b, E.F b → E1.F b
 fz : ∀ b, E1.F b → E.F b ∨ ∃ t0 e0, find t0 s.ents = some e0 ∧ blk (E.vs t0) = some b
theorem Gz.refl (s : St) (E : Env) : Gz s s E E := ⟨rfl, rfl, rfl, fun _ e h => ⟨e, h⟩, fun _ q => q, fun _ q => .inl q⟩
theorem Gz.trans {s s1 s2 : St} {E E1 E2 : Env} (h : Gz s s1 E E1) (k : Gz s1 s2 E1 E2) : Gz s s2 E E2 := by
 refine ⟨k.vs.trans h.vs, k.U.trans h.U, k.nx.trans h.nx, fun t e q => ?_, fun b q => k.sub b (h.sub b q), fun b q => ?_⟩
 ·obtain ⟨e1, h1⟩ := k.keys t e q
  exact h.keys t e1 h1
 ·rcases k.fz b q with q | ⟨t0, e0, h0, hb⟩
  ·exact h.fz b q
  ·obtain ⟨e1, h1⟩ := h.keys t0 e0 h0
   rw [h.vs] at hb
   exact .inr ⟨t0, e1, h1, hb⟩
theorem Fr.pre {o : Oper} {s s1 s' : St} {E E1 E' : Env} {a a' : Act} {w w' : World} (g : Gz s s1 E E1) (h : Fr o s1 s' E1 a w E' a' w') : Fr o s s' E a w E' a' w' := by
 have st : Stp E w E1 w := ⟨fun t _ => by rw [g.vs], fun t q => by rw [g.U]; exact q, g.sub, fun _ _ => rfl⟩
 have old : ∀ b, (∃ t0 e0, find t0 s1.ents = some e0 ∧ blk (E1.vs t0) = some b) → ∃ t0 e0, find t0 s.ents = some e0 ∧ blk (E.vs t0) = some b := by
  rintro b ⟨t0, e0, h0, hb⟩
  obtain ⟨e1, h1⟩ := g.keys t0 e0 h0
  rw [g.vs] at hb
  exact ⟨t0, e1, h1, hb⟩
 refine ⟨st.trans h.stp, h.act, h.size, fun b hl hno => h.mem b hl fun t e ht hb => ?_, fun t e b ht hb => (h.new t e b ht hb).imp id (old b), fun b q => ?_, fun t q => ?_⟩
 ·obtain ⟨t0, e0, h0, hb0⟩ := old b ⟨t, e, ht, hb⟩
  exact hno t0 e0 h0 hb0
 ·rcases h.fz b q with q | q | q
  ·rcases g.fz b q with q | q
   ·exact .inl q
   ·exact .inr (.inr q)
  ·exact .inr (.inl q)
  ·exact .inr (.inr (old b q))
 ·rcases h.tags t q with q | q
  ·rw [g.U] at q; exact .inl q
  ·rw [g.nx] at q; exact .inr q
def OTo (P : Program) (o : Oper) (s s' : St) : Prop :=
 ∀ (W0 : Base) (E : Env) (a : Act) (w : World), Sim W0 E s a w → ∀ (K : Act → World → Prop) (Q : Exit → Act → World → Prop), (∀ (E' : Env) (a' : Act) (w' : World), Sim W0 E' s' a' w' → Fr o s s' E a w E' a' w' → K a' w') → o.wp P a w K Q
def OOk (P : Program) (o : Oper) (s : St) (k : St → Option R) (r : R) : Prop := ∃ s', k s' = some r ∧ OTo P o s s'
theorem QTo.o {P : Program} {o : Oper} {s : St} {av : AV} (h : QTo P o s av) : OTo P o s (s.put o.dst av) := by
 intro W0 E a w hs K Q hK
 obtain ⟨v, hv, hq⟩ := h W0 E a w hs
 have h1 := hq w (Below.refl _ _)
 unfold Oper.quietAt at h1
 unfold Oper.wp
 generalize (execOp a.eval o).run P w = r at *
 cases r with
 | ok n w' =>
  cases n <;> simp only [Oper.quietUpon] at h1 <;> simp only [Oper.upon]
  case value u =>
   obtain ⟨rfl, rfl⟩ := h1
   exact hK E _ _ (hs.put o.dst hv) (Fr.quiet hs (Below.refl _ _) (put_ents _ _ _) _)
  case skip =>
   obtain ⟨rfl, rfl⟩ := h1
   exact hK E _ _ (hs.put o.dst hv) (Fr.quiet hs (Below.refl _ _) (put_ents _ _ _) _)
  case enter f args =>
   obtain ⟨rfl, hc⟩ := h1
   refine hc.mono ?_
   rintro e w2 ⟨rfl, hb⟩
   exact hK E _ _ ((hs.below' hb).put o.dst (hv.step ⟨fun _ _ => rfl, fun _ q => q, fun _ q => q, fun b q => hb.block b (hs.fz b q)⟩)) (Fr.quiet hs hb (put_ents _ _ _) _)
 | halt x w' => simp only [Oper.quietUpon] at h1
theorem OTo.of {P : Program} {o : Oper} {s s' : St} (h : ∀ (W0 : Base) (E : Env) (a : Act) (w : World), Sim W0 E s a w → ∃ v w' E', (execOp a.eval o).run P w = .ok (.value v) w' ∧ Sim W0 E' s' (a.put o.dst v) w' ∧ Fr o s s' E a w E' (a.put o.dst v) w') : OTo P o s s' := by
 intro W0 E a w hs K Q hK
 obtain ⟨v, w', E', hr, hs', hf⟩ := h W0 E a w hs
 unfold Oper.wp
 rw [hr]
 exact hK _ _ _ hs' hf
theorem OTo.skip {P : Program} {o : Oper} {s s' : St} (h : ∀ (W0 : Base) (E : Env) (a : Act) (w : World), Sim W0 E s a w → ∃ w' E', (execOp a.eval o).run P w = .ok .skip w' ∧ Sim W0 E' s' (a.put o.dst undef) w' ∧ Fr o s s' E a w E' (a.put o.dst undef) w') : OTo P o s s' := by
 intro W0 E a w hs K Q hK
 obtain ⟨w', E', hr, hs', hf⟩ := h W0 E a w hs
 unfold Oper.wp
 rw [hr]
 exact hK _ _ _ hs' hf
theorem run_newObj' {P : Program} (o : Obj) (w : World) : (Sem.new o .pure).run P w = .ok w.heap.size (w.alloc o) := rfl
theorem below_alloc1 (w : World) (o : Obj) : Below w.heap.size w (w.alloc o) := below_alloc (Below.refl _ _) o
theorem alloc_size (w : World) (o : Obj) : (w.alloc o).heap.size = w.heap.size + 1 := by
 show (w.heap.push o).size = _
 simp
theorem Sim.box {W0 : Base} {E : Env} {s : St} {a : Act} {w : World} (h : Sim W0 E s a w) (T : TypeId) {cells : List AV} {vals : Array Value} (hc : All2 (VB E w) cells vals.toList) (d : Option Tmp) :
  Sim W0 (E.add s.nx (.pointer (some ⟨w.heap.size, 0, none⟩)) E.F) ((s.add (.box T cells)).put d (.ptr s.nx 0)) (a.put d (.pointer (some ⟨w.heap.size, 0, none⟩))) (w.alloc (.cells vals T)) := by
 have hn : ¬ E.U s.nx := fun q => Nat.lt_irrefl _ (h.used _ q)
 have hb := below_alloc1 w (.cells vals T)
 refine Sim.put (h.fresh hb (fun _ q => q) (fun b q => ⟨?_, .inl q⟩) ?_ ?_) d ?_
 ·have := h.fz b q; rw [alloc_size]; omega
 ·refine ⟨w.heap.size, vals, rfl, h.below.size, fun q => ?_, heap_alloc_new w _, hc.imp fun _ _ q => VB.step (Stp.add hn (fun _ q => q) (fun b q => hb.block b (h.fz b q))) q⟩
  exact Nat.lt_irrefl _ (h.fz _ q)
 ·intro b hb
  obtain rfl : w.heap.size = b := by simpa [blk] using hb
  exact Nat.le_refl _
 ·exact ⟨.inr rfl, w.heap.size, by simp [Env.add], rfl⟩
theorem Fr.box {W0 : Base} {o : Oper} {s : St} {E : Env} {a : Act} {w : World} (hs : Sim W0 E s a w) (T : TypeId) (cells : List AV) (vals : Array Value) :
  Fr o s ((s.add (.box T cells)).put o.dst (.ptr s.nx 0)) E a w (E.add s.nx (.pointer (some ⟨w.heap.size, 0, none⟩)) E.F) (a.put o.dst (.pointer (some ⟨w.heap.size, 0, none⟩))) (w.alloc (.cells vals T)) := by
 refine Fr.fresh hs (below_alloc1 w _) (put_ents _ _ _) (fun b hb => ?_) _
 have : w.heap.size = b := by simpa [blk] using hb
 omega
noncomputable def oBox (o : Oper) (s : St) (T : TypeId) (x : Operand) (k : St → Option R) : Option R :=
 match cellsA s (evl s x) with
 | some cs => k ((s.add (.box T cs)).put o.dst (.ptr s.nx 0))
 | none => none
theorem oBox_ok {P : Program} {o : Oper} {s : St} {T : TypeId} {x : Operand} {k : St → Option R} {r : R} (ho : o.op = .box T x) (h : oBox o s T x k = some r) : OOk P o s k r := by
 unfold oBox at h
 split at h
 ·rename_i cs hcs
  refine ⟨_, h, OTo.of fun W0 E a w hs => ⟨_, _, _, ?_, hs.box T (vals := (a.eval x).cells) (cellsA_ok hs.toSimS hcs (hs.ev x)) o.dst, Fr.box hs _ _ _⟩⟩
  simp only [execOp, ho, Instr.box, newVar, newRow, newObj, Sem.run_bind, Sem.run_pure, Result.andThen_ok, run_newObj']
 ·cases h
noncomputable def oAlloc (P : Program) (o : Oper) (s : St) (T : TypeId) (k : St → Option R) : Option R :=
 match P.info? T with
 | some i => match i.zero with
  | some z => k ((s.add (.box T (z.cells.toList.map .val))).put o.dst (.ptr s.nx 0))
  | none => none
 | none => none
theorem vals_all2 {E : Env} {w : World} (vs : Array Value) : All2 (VB E w) (vs.toList.map AV.val) vs.toList := by
 have := All2.map (R := VB E w) (fun v : Value => AV.val v) id (fun _ => rfl) vs.toList
 simpa using this
theorem oAlloc_ok {P : Program} {o : Oper} {s : St} {T : TypeId} {k : St → Option R} {r : R} (ho : o.op = .alloc T) (h : oAlloc P o s T k = some r) : OOk P o s k r := by
 unfold oAlloc at h
 split at h
 ·rename_i i hi
  split at h
  ·rename_i z hz
   refine ⟨_, h, OTo.of fun W0 E a w hs => ⟨_, _, _, ?_, hs.box T (vals := z.cells) (vals_all2 _) o.dst, Fr.box hs _ _ _⟩⟩
   simp [execOp, ho, Instr.alloc, zeroValue, typeInfo, hi, hz, newVar, newRow, newObj, run_newObj']
  ·cases h
 ·cases h
theorem setRow_size (w : World) (g : Nat) (cs : Array Value) : (w.setRow g cs).heap.size = w.heap.size := by simp [World.setRow]
theorem setRow_other (w : World) (g : Nat) (cs : Array Value) (b : Nat) (h : b ≠ g) : (w.setRow g cs).heap[b]? = w.heap[b]? := by
 simp [World.setRow, Array.getElem?_modify, Ne.symm h]
theorem below_setRow {B : Nat} (w : World) (g : Nat) (cs : Array Value) (h : B ≤ g) : Below B w (w.setRow g cs) :=
 ⟨rfl, rfl, rfl, by rw [setRow_size]; exact Nat.le_refl _, fun k hk => setRow_other w g cs k (by omega)⟩
theorem Sim.writeW {W0 : Base} {E : Env} {s : St} {a : Act} {w w' : World} (h : Sim W0 E s a w) {t : Nat} {e e' : Ent} {g : Nat} (hsz : w'.heap.size = w.heap.size) (hm : ∀ b, b ≠ g → w'.heap[b]? = w.heap[b]?) (hbel : ∀ B, B ≤ g → Below B w w') (he : find t s.ents = some e) (hg : blk (E.vs t) = some g) (hF : ¬ E.F g)
  (hok : EntOK W0 E w' (E.vs t) e') : Sim W0 E ⟨s.tmps, upd t e' s.ents, s.nx⟩ a w' := by
 obtain ⟨hu, hk⟩ := h.ents t e he
 have hB := (hk.blk_lt hg).1
 have st : Stp E w E w' := ⟨fun _ _ => rfl, fun _ q => q, fun _ q => q, fun b q => hm b (fun e => hF (e ▸ q))⟩
 refine h.turn st ?_ rfl
 refine h.toSimS.turn st (h.below.trans (hbel _ hB)) (fun b q => by rw [hsz]; exact h.fz b q) h.old h.used ?_ ?_
 ·intro t' d ht
  simp only at ht
  rw [find_upd] at ht
  by_cases q : t' = t
  ·rw [if_pos q] at ht
   obtain rfl := Option.some.inj ht
   exact .inr ⟨by rw [q]; exact hu, by rw [q]; exact hok⟩
  ·rw [if_neg q] at ht
   refine .inl ⟨ht, fun b hb => ⟨hm b (fun e => ?_), fun q => q⟩⟩
   subst e
   exact h.apart t' t d _ b q ht he hb hg
 ·intro t1 t2 e1 e2 b hne h1 h2 hb1 hb2
  simp only at h1 h2
  rw [find_upd] at h1 h2
  have f1 : ∃ d, find t1 s.ents = some d := by
   by_cases q : t1 = t
   ·exact ⟨e, by rw [q]; exact he⟩
   ·rw [if_neg q] at h1; exact ⟨_, h1⟩
  have f2 : ∃ d, find t2 s.ents = some d := by
   by_cases q : t2 = t
   ·exact ⟨e, by rw [q]; exact he⟩
   ·rw [if_neg q] at h2; exact ⟨_, h2⟩
  obtain ⟨d1, f1⟩ := f1
  obtain ⟨d2, f2⟩ := f2
  exact h.apart t1 t2 d1 d2 b hne f1 f2 hb1 hb2
theorem Sim.write {W0 : Base} {E : Env} {s : St} {a : Act} {w : World} (h : Sim W0 E s a w) {t : Nat} {e e' : Ent} {g : Nat} {cs : Array Value} (he : find t s.ents = some e) (hg : blk (E.vs t) = some g) (hF : ¬ E.F g)
  (hok : EntOK W0 E (w.setRow g cs) (E.vs t) e') : Sim W0 E ⟨s.tmps, upd t e' s.ents, s.nx⟩ a (w.setRow g cs) :=
 h.writeW (setRow_size _ _ _) (fun b hb => setRow_other w g cs b hb) (fun B hB => below_setRow w g cs hB) he hg hF hok
theorem VB.one {E : Env} {w : World} {av : AV} {v : Value} (h : VB E w av v) (hd : av ≠ .dead) (hv : ∀ u, av = .val u → u.oneCell' = true) (ho : ∀ t, av = .own t → (E.vs t).oneCell' = true) : v.oneCell' = true := by
 match av, h with
 | .val u, h => rw [show v = u from h]; exact hv u rfl
 | .own t, h => rw [h.2]; exact ho t rfl
 | .sh k xs, h =>
  obtain ⟨A, c, e, _⟩ := h
  obtain rfl : v = _ := by injection e
  rfl
 | .ptr t o, h => obtain ⟨_, b, _, rfl⟩ := h; rfl
 | .epo t i z o, h => obtain ⟨_, g, n, c, _, _, rfl⟩ := h; rfl
 | .fn f cs, h => obtain ⟨vals, rfl, _⟩ := h; rfl
 | .bm f cs, h => obtain ⟨vals, rfl, _⟩ := h; rfl
 | .dead, h => exact absurd rfl hd
def storable (s : St) : AV → Bool
 | .val (.agg _) => false
 | .val (.tuple _) => false
 | .val _ => true
 | .own t => (find t s.ents).isSome
 | .dead => false
 | .agg _ => false
 | .tup _ => false
 | .cp _ => false
 | .cs _ _ _ => false
 | _ => true
theorem storable_ok {W0 : Base} {E : Env} {s : St} {w : World} (hs : SimS W0 E s w) {av : AV} {v : Value} (h : storable s av = true) (hv : VB E w av v) : v.oneCell' = true := by
 match av, h, hv with
 | .val u, h, hv =>
  rw [show v = u from hv]
  cases u <;> first | rfl | cases h
 | .own t, h, hv =>
  obtain ⟨e, he⟩ := Option.isSome_iff_exists.1 h
  obtain ⟨_, hok⟩ := hs.ents _ _ he
  rw [hv.2]
  cases e with
  | row r => obtain ⟨⟨_, ho, _⟩, _⟩ := hok; rcases ho.2 with ⟨q, _⟩ | ⟨_, _, _, q, _⟩ <;> rw [q] <;> rfl
  | box T cells => obtain ⟨b, vals, q, _⟩ := hok; rw [q]; rfl
  | mp kd vd l => obtain ⟨b, es, clock, q, _⟩ := hok; rw [q]; rfl
  | ghost d cells => obtain ⟨q, _⟩ := hok; rw [q]; rfl
 | .sh k xs, h, hv =>
  obtain ⟨A, c, e, _⟩ := hv
  obtain rfl : v = _ := by injection e
  rfl
 | .ptr t o, h, hv => obtain ⟨_, b, _, rfl⟩ := hv; rfl
 | .epo t i z o, h, hv => obtain ⟨_, g, n, c, _, _, rfl⟩ := hv; rfl
 | .fn f cs, h, hv => obtain ⟨vals, rfl, _⟩ := hv; rfl
 | .bm f cs, h, hv => obtain ⟨vals, rfl, _⟩ := hv; rfl
theorem storables_ok {W0 : Base} {E : Env} {s : St} {w : World} (hs : SimS W0 E s w) : ∀ {cs : List AV} {vs : List Value}, cs.all (storable s) = true → All2 (VB E w) cs vs → ∀ v ∈ vs, v.oneCell' = true
 | [], [], _, _, v, hv => by cases hv
 | c :: cs, u :: vs, h, hv, v, hm => by
  simp only [List.all_cons, Bool.and_eq_true] at h
  rcases List.mem_cons.1 hm with rfl | hm
  ·exact storable_ok hs h.1 hv.1
  ·exact storables_ok hs h.2 hv.2 v hm
theorem splice_get {α : Type} (cells : List α) (o : Nat) (vs : List α) (h : o + vs.length ≤ cells.length) (p : Nat) : (splice cells o vs)[p]? = if p < o then cells[p]? else if p < o + vs.length then vs[p - o]? else cells[p]? := by
 unfold splice
 by_cases h1 : p < o
 ·rw [if_pos h1, List.append_assoc, List.getElem?_append_left (by simp; omega), List.getElem?_take, if_pos h1]
 ·rw [if_neg h1]
  by_cases h2 : p < o + vs.length
  ·rw [if_pos h2, List.getElem?_append_left (by simp; omega), List.getElem?_append_right (by simp; omega)]
   congr 1
   simp; omega
  ·rw [if_neg h2, List.getElem?_append_right (by simp; omega), List.getElem?_drop]
   congr 1
   simp; omega
theorem seg_get {α : Type} (cells : List α) (i sz p : Nat) : ((cells.drop (i * sz)).take sz)[p]? = if p < sz then cells[i * sz + p]? else none := by
 rw [List.getElem?_take]
 split
 ·rw [List.getElem?_drop]
 ·rfl
theorem seg_same {α : Type} {cells vs : List α} {j sz off : Nat} (h1 : off + vs.length ≤ sz) (h2 : j * sz + sz ≤ cells.length) : ((splice cells (j * sz + off) vs).drop (j * sz)).take sz = splice ((cells.drop (j * sz)).take sz) off vs := by
 apply List.ext_getElem?
 intro p
 rw [seg_get, splice_get _ _ _ (by omega), splice_get _ _ _ (by simp; omega), seg_get]
 by_cases hp : p < sz
 ·rw [if_pos hp, if_pos hp]
  by_cases q1 : p < off
  ·rw [if_pos (by omega), if_pos q1]
  ·rw [if_neg (by omega), if_neg q1]
   by_cases q2 : p < off + vs.length
   ·rw [if_pos (by omega), if_pos q2]
    congr 1
    omega
   ·rw [if_neg (by omega), if_neg q2]
 ·rw [if_neg hp, if_neg hp, if_neg (by omega), if_neg (by omega)]
theorem seg_ne {α : Type} {cells vs : List α} {i j sz off : Nat} (h1 : off + vs.length ≤ sz) (h2 : j * sz + sz ≤ cells.length) (hne : i ≠ j) : ((splice cells (j * sz + off) vs).drop (i * sz)).take sz = (cells.drop (i * sz)).take sz := by
 apply List.ext_getElem?
 intro p
 rw [seg_get, seg_get, splice_get _ _ _ (by omega)]
 by_cases hp : p < sz
 ·rw [if_pos hp, if_pos hp]
  rcases Nat.lt_or_gt_of_ne hne with q | q
  ·have : (i + 1) * sz ≤ j * sz := Nat.mul_le_mul_right _ q
   rw [Nat.add_mul, Nat.one_mul] at this
   rw [if_pos (by omega)]
  ·have : (j + 1) * sz ≤ i * sz := Nat.mul_le_mul_right _ q
   rw [Nat.add_mul, Nat.one_mul] at this
   rw [if_neg (by omega), if_neg (by omega)]
 ·rw [if_neg hp, if_neg hp]
theorem reps_set {k : K} {w : World} {F : Nat → Prop} {xs : List k.T} {cells vs : List Value} {j off : Nat} {y : k.T} (h : Reps (Rd w F k) k.sz xs cells) (hj : j < List.length xs) (h1 : off + vs.length ≤ k.sz) (hy : Rd w F k y (splice ((cells.drop (j * k.sz)).take k.sz) off vs)) :
  Reps (Rd w F k) k.sz (List.set xs j y) (splice cells (j * k.sz + off) vs) := by
 have h2 : j * k.sz + k.sz ≤ cells.length := by rw [h.1, ← Nat.succ_mul]; exact Nat.mul_le_mul_right _ hj
 refine ⟨by rw [splice_len (by omega), h.1, List.length_set], fun i p hi => ?_⟩
 rw [List.getElem?_set] at hi
 by_cases q : j = i
 ·subst q
  rw [if_pos rfl, if_pos hj] at hi
  obtain rfl := Option.some.inj hi
  rw [seg_same h1 h2]
  exact hy
 ·rw [if_neg q] at hi
  rw [seg_ne h1 h2 (Ne.symm q)]
  exact h.2 i p hi
theorem own_splice {w : World} {base : Nat} {T : TypeId} {size n : Nat} {v : Value} {cells vs : List Value} {g o : Nat} (h : w.ownsRow base T size v n cells) (hb : blk v = some g) (ho : o + vs.length ≤ n * size) :
  ∃ cur : Array Value, w.heap[g]? = some (.cells cur T (0, 0)) ∧ o + vs.length ≤ cur.size ∧ (w.setRow g (cur.toList.take o ++ vs ++ cur.toList.drop (o + vs.length)).toArray).ownsRow base T size v n (splice cells o vs) := by
 rcases h.2 with ⟨rfl, _⟩ | ⟨g', cap, cur, rfl, hg, hh, hc, hm, hs, ht⟩
 ·cases hb
 ·obtain rfl : g' = g := by simpa [blk] using hb
  have hle : n * size ≤ cap * size := Nat.mul_le_mul_right _ hc
  have hcl : cur.toList.length = cur.size := by simp
  refine ⟨cur, hh, by omega, by rw [splice_len (by rw [h.1]; exact ho), h.1], .inr ⟨g', cap, _, rfl, hg, setRow_heap w g' cur _ T _ hh, hc, hm, ?_, ?_⟩⟩
  ·show (splice cur.toList o vs).toArray.size = _
   rw [List.size_toArray, splice_len (by omega), hcl, hs]
  ·show (splice cur.toList o vs).toArray.toList.take (n * size) = _
   rw [← ht]
   apply List.ext_getElem?
   intro p
   simp only []
   rw [List.getElem?_take, splice_get _ _ _ (by omega), splice_get _ _ _ (by simp; omega), List.getElem?_take]
   by_cases q : p < n * size
   ·rw [if_pos q, if_pos q]
   ·rw [if_neg q, if_neg q, if_neg (by omega), if_neg (by omega)]
theorem run_storeAt {P : Program} {T : TypeId} {i : TypeInfo} {g o : Nat} {t : TypeId} {cur : Array Value} {w : World} {v : Value} (hi : P.info? T = some i) (hs : v.cells.size = i.size) (hg : w.heap[g]? = some (.cells cur t (0, 0))) (hl : o + v.cells.toList.length ≤ cur.size) (h1 : ∀ u ∈ v.cells.toList, u.oneCell' = true) :
  (Instr.storeAt T (.pointer (some ⟨g, o, none⟩)) v).run P w = .ok () (w.setRow g (cur.toList.take o ++ v.cells.toList ++ cur.toList.drop (o + v.cells.toList.length)).toArray) := by
 have := run_storeCells_at (P := P) g o t v.cells.toList 0 cur w hg (by simpa using hl) h1
 simp only [Nat.add_zero] at this
 simp [Instr.storeAt, Instr.sureAddr, storeVar, sizeOf, typeInfo, hi, hs, this]
theorem Fr.writeW {o : Oper} {s : St} {E : Env} {a : Act} {w w' : World} {t : Nat} {e e' : Ent} {g : Nat} (hsz : w'.heap.size = w.heap.size) (hm : ∀ b, b ≠ g → w'.heap[b]? = w.heap[b]?) (he : find t s.ents = some e) (hg : blk (E.vs t) = some g) (hF : ¬ E.F g) (av : AV) (v : Value) :
  Fr o s ((⟨s.tmps, upd t e' s.ents, s.nx⟩ : St).put o.dst av) E a w E (a.put o.dst v) w' := by
 refine ⟨⟨fun _ _ => rfl, fun _ q => q, fun _ q => q, fun b q => hm _ (fun e => hF (e ▸ q))⟩, ⟨v, rfl⟩, by rw [hsz]; exact Nat.le_refl _, fun b _ hno => hm _ (fun q => hno t e he (q ▸ hg)), fun t' e2 b ht hb => ?_, fun b q => .inl q, fun t q => .inl q⟩
 rw [put_ents] at ht
 rw [find_upd] at ht
 by_cases q : t' = t
 ·exact .inr ⟨t, e, he, q ▸ hb⟩
 ·rw [if_neg q] at ht
  exact .inr ⟨t', e2, ht, hb⟩
theorem Fr.write {o : Oper} {s : St} {E : Env} {a : Act} {w : World} {t : Nat} {e e' : Ent} {g : Nat} {cs : Array Value} (he : find t s.ents = some e) (hg : blk (E.vs t) = some g) (hF : ¬ E.F g) (av : AV) (v : Value) :
  Fr o s ((⟨s.tmps, upd t e' s.ents, s.nx⟩ : St).put o.dst av) E a w E (a.put o.dst v) (w.setRow g cs) :=
 Fr.writeW (setRow_size _ _ _) (fun b hb => setRow_other w g cs b hb) he hg hF av v
noncomputable def oStore (P : Program) (o : Oper) (s : St) (T : TypeId) (ad x : Operand) (k : St → Option R) : Option R :=
 match P.info? T, cellsA s (evl s x) with
 | some i, some cs => bif Nat.beq cs.length i.size && cs.all (storable s) then (match evl s ad with
  | .ptr t off => match find t s.ents with
   | some (.box T' cells) => bif Nat.ble (off + cs.length) cells.length then k ((⟨s.tmps, upd t (.box T' (splice cells off cs)) s.ents, s.nx⟩ : St).put o.dst .dead) else none
   | _ => none
  | .epo t j sz off => match find t s.ents with
   | some (.row r) => bif Nat.beq sz r.k.sz && !r.fz && Nat.ble (off + cs.length) sz then (match prj s false r.k (splice (inj r.k (List.getD r.xs j r.k.dflt)) off cs) with
    | some y => k ((⟨s.tmps, upd t (.row ⟨r.k, r.T, r.fz, List.set r.xs j y⟩) s.ents, s.nx⟩ : St).put o.dst .dead)
    | none => none) else none
   | _ => none
  | _ => none) else none
 | _, _ => none
theorem oStore_ok {P : Program} {o : Oper} {s : St} {T : TypeId} {ad x : Operand} {k : St → Option R} {r : R} (ho : o.op = .store T ad x) (h : oStore P o s T ad x k = some r) : OOk P o s k r := by
 unfold oStore at h
 split at h
 ·rename_i i cs hi hcs
  cases hb : Nat.beq cs.length i.size && cs.all (storable s) with
  | false => rw [hb] at h; cases h
  | true =>
   rw [hb] at h
   simp only [Bool.and_eq_true] at hb
   simp only [cond_true] at h
   have hlen := Nat.eq_of_beq_eq_true hb.1
   split at h
   ·rename_i t off hx
    split at h
    ·rename_i T' cells he
     cases hle : Nat.ble (off + cs.length) cells.length with
     | false => rw [hle] at h; cases h
     | true =>
      rw [hle] at h
      have hle' := Nat.le_of_ble_eq_true hle
      refine ⟨_, h, OTo.skip fun W0 E a w hs => ?_⟩
      have hv := cellsA_ok hs.toSimS hcs (hs.ev x)
      have h1 := storables_ok hs.toSimS hb.2 hv
      have := hs.ev ad
      rw [hx] at this
      obtain ⟨hu, b, hvs, e⟩ := this
      obtain ⟨_, b', vals, hvs', h0, hF, hg, hc⟩ := hs.ents _ _ he
      rw [hvs] at hvs'
      obtain rfl : b = b' := by injection hvs' with q; injection q with q; injection q
      have hl1 := hv.length
      have hl2 := hc.length
      have hl3 : vals.toList.length = vals.size := by simp
      have hrun := run_storeAt (P := P) (T := T) (o := off) (v := a.eval x) hi (by rw [← Array.length_toList, ← hl1, hlen]) hg (by omega) h1
      refine ⟨w.setRow b (vals.toList.take off ++ (a.eval x).cells.toList ++ vals.toList.drop (off + (a.eval x).cells.toList.length)).toArray, E, ?_, Sim.put (hs.write (g := b) he (by rw [hvs]; rfl) hF ?_) o.dst (av := .dead) trivial, Fr.write he (by rw [hvs]; rfl) hF _ _⟩
      ·simp only [execOp, ho, e, Sem.run_bind, hrun, Result.andThen_ok]; rfl
      ·have st : Stp E w E (w.setRow b (vals.toList.take off ++ (a.eval x).cells.toList ++ vals.toList.drop (off + (a.eval x).cells.toList.length)).toArray) :=
        ⟨fun _ _ => rfl, fun _ q => q, fun _ q => q, fun b' q => setRow_other _ _ _ _ (fun e => hF (e ▸ q))⟩
       refine ⟨b, _, hvs, h0, hF, setRow_heap w b vals _ T' _ hg, ?_⟩
       exact (All2.splice off hc hv).imp fun _ _ q => VB.step st q
    ·cases h
   ·rename_i t j sz off hx
    split at h
    ·rename_i rw_ he
     cases hcnd : Nat.beq sz rw_.k.sz && !rw_.fz && Nat.ble (off + cs.length) sz with
     | false => rw [hcnd] at h; cases h
     | true =>
      rw [hcnd] at h
      simp only [Bool.and_eq_true, Bool.not_eq_true'] at hcnd
      obtain ⟨⟨hsz, hfz⟩, hle⟩ := hcnd
      obtain rfl := Nat.eq_of_beq_eq_true hsz
      have hle' := Nat.le_of_ble_eq_true hle
      simp only [cond_true] at h
      split at h
      ·rename_i y hy
       refine ⟨_, h, OTo.skip fun W0 E a w hs => ?_⟩
       have hv := cellsA_ok hs.toSimS hcs (hs.ev x)
       have h1 := storables_ok hs.toSimS hb.2 hv
       have := hs.ev ad
       rw [hx] at this
       obtain ⟨hu, g, n, c, hvs, hj, e⟩ := this
       obtain ⟨_, ⟨cells, hown, hreps⟩, hF⟩ := hs.ents _ _ he
       have hbk : blk (E.vs t) = some g := by rw [hvs]; rfl
       have hnF : ¬ E.F g := fun q => by rw [(hF g hbk).1 q] at hfz; cases hfz
       have hn : List.length rw_.xs = n := by
        rcases hown.2 with ⟨q, _⟩ | ⟨_, _, _, q, _⟩
        ·rw [hvs] at q; cases q
        ·rw [hvs] at q; injection q with _ q _; exact q.symm
       have hjl : j < List.length rw_.xs := by omega
       have hl1 := hv.length
       have hxj : rw_.xs[j]? = some (List.getD rw_.xs j rw_.k.dflt) := by
        rw [List.getD_eq_getElem?_getD, List.getElem?_eq_getElem hjl]; rfl
       have hel := inj_rd (hreps.2 j _ hxj)
       have hR := prj_rd hs.toSimS (F := E.F) (fun _ q => q) (any := false) (fun q => by cases q) hy (All2.splice off hel hv)
       have hbd : j * rw_.k.sz + rw_.k.sz ≤ List.length rw_.xs * rw_.k.sz := by rw [← Nat.succ_mul]; exact Nat.mul_le_mul_right _ hjl
       obtain ⟨cur, hg, hcur, hown'⟩ := own_splice (vs := (a.eval x).cells.toList) (o := j * rw_.k.sz + off) hown hbk (by omega)
       have hrun := run_storeAt (P := P) (T := T) (o := j * rw_.k.sz + off) (v := a.eval x) hi (by rw [← Array.length_toList, ← hl1, hlen]) hg hcur h1
       refine ⟨w.setRow g (cur.toList.take (j * rw_.k.sz + off) ++ (a.eval x).cells.toList ++ cur.toList.drop (j * rw_.k.sz + off + (a.eval x).cells.toList.length)).toArray, E, ?_, Sim.put (hs.write (g := g) he hbk hnF ?_) o.dst (av := .dead) trivial, Fr.write he hbk hnF _ _⟩
       ·simp only [execOp, ho, e, Sem.run_bind, hrun, Result.andThen_ok]; rfl
       ·have hm : ∀ b, E.F b → (w.setRow g (cur.toList.take (j * rw_.k.sz + off) ++ (a.eval x).cells.toList ++ cur.toList.drop (j * rw_.k.sz + off + (a.eval x).cells.toList.length)).toArray).heap[b]? = w.heap[b]? :=
         fun b q => setRow_other _ _ _ _ (fun e => hnF (e ▸ q))
        refine ⟨⟨splice cells (j * rw_.k.sz + off) (a.eval x).cells.toList, ?_, ?_⟩, hF⟩
        ·show World.ownsRow _ _ _ _ _ (List.length (List.set rw_.xs j y)) _
         rw [List.length_set]
         exact hown'
        ·exact (reps_set hreps hjl (by omega) hR).imp_ fun _ _ q => Rd.step hm (fun _ q => q) q
      ·cases h
    ·cases h
   ·cases h
 ·cases h
noncomputable def oMakeMap (P : Program) (o : Oper) (s : St) (T : TypeId) (k : St → Option R) : Option R :=
 match P.underlying T with
 | some (.map key el) => match P.underlying key, P.underlying el with
  | some (.int kd), some (.int vd) => k ((s.add (.mp kd vd [])).put o.dst (.own s.nx))
  | _, _ => none
 | _ => none
theorem oMakeMap_ok {P : Program} {o : Oper} {s : St} {T : TypeId} {k : St → Option R} {r : R} (ho : o.op = .makeMap T none) (h : oMakeMap P o s T k = some r) : OOk P o s k r := by
 unfold oMakeMap at h
 split at h
 ·split at h
  ·rename_i kd vd _ _
   refine ⟨_, h, OTo.of fun W0 E a w hs => ⟨.map (some w.heap.size), w.alloc (.map #[] 0), E.add s.nx (.map (some w.heap.size)) E.F, ?_, ?_, ?_⟩⟩
   ·simp [execOp, ho, Instr.makeMap, newObj, Sem.run_bind, Result.andThen_ok, run_newObj']
   ·have hb := below_alloc1 w (.map #[] 0)
    refine Sim.put (hs.fresh hb (fun _ q => q) (fun b q => ⟨?_, .inl q⟩) ?_ ?_) o.dst ?_
    ·have := hs.fz b q; rw [alloc_size]; omega
    ·exact ⟨w.heap.size, #[], 0, rfl, hs.below.size, fun q => Nat.lt_irrefl _ (hs.fz _ q), heap_alloc_new w _, rfl⟩
    ·intro b hb
     obtain rfl : w.heap.size = b := by simpa [blk] using hb
     exact Nat.le_refl _
    ·exact ⟨.inr rfl, by simp [Env.add]⟩
   ·refine Fr.fresh hs (below_alloc1 w _) (put_ents _ _ _) (fun b hb => ?_) _
    have : w.heap.size = b := by simpa [blk] using hb
    omega
  ·cases h
 ·cases h
def World.setO (w : World) (g : Nat) (o : Obj) : World := { w with heap := w.heap.setIfInBounds g o }
theorem setO_size (w : World) (g : Nat) (o : Obj) : (World.setO w g o).heap.size = w.heap.size := by simp [World.setO]
theorem setO_other (w : World) (g : Nat) (o : Obj) (b : Nat) (h : b ≠ g) : (World.setO w g o).heap[b]? = w.heap[b]? := by
 simp [World.setO, Ne.symm h]
theorem below_setO {B : Nat} (w : World) (g : Nat) (o : Obj) (h : B ≤ g) : Below B w (World.setO w g o) :=
 ⟨rfl, rfl, rfl, by rw [setO_size]; exact Nat.le_refl _, fun k hk => setO_other w g o k (by omega)⟩
theorem mset_found {x y : Int} {kd vd : IntKind} : ∀ (es : List MapEntry) (l : List (Int × Int)) (i j : Nat) (v : Int), es.map (fun e => (e.key, e.val)) = l.map (fun p => (Value.int kd p.1, Value.int vd p.2)) → mfind x l i = some (j, v) →
  i ≤ j ∧ (∃ e, es[j - i]? = some e ∧ e.key = .int kd x) ∧ (es.modify (j - i) fun e => { e with key := .int kd x, val := .int vd y }).map (fun e => (e.key, e.val)) = (mset x y l).map (fun p => (Value.int kd p.1, Value.int vd p.2))
 | [], [], _, _, _, _, h => by simp [mfind] at h
 | [], _ :: _, _, _, _, h, _ => by simp at h
 | _ :: _, [], _, _, _, h, _ => by simp at h
 | e :: es, (a, b) :: l, i, j, v, h, hf => by
  simp only [List.map_cons, List.cons.injEq, Prod.mk.injEq] at h
  obtain ⟨⟨h1, h2⟩, h3⟩ := h
  unfold mfind at hf
  unfold mset
  by_cases q : x = a
  ·rw [if_pos q] at hf ⊢
   obtain ⟨rfl, _⟩ := Prod.mk.inj (Option.some.inj hf)
   refine ⟨Nat.le_refl _, ⟨e, by simp, by rw [h1, q]⟩, ?_⟩
   simp [h3]
  ·rw [if_neg q] at hf ⊢
   obtain ⟨p1, p2, p3⟩ := mset_found es l (i + 1) j v h3 hf
   have e1 : j - i = (j - (i + 1)) + 1 := by omega
   refine ⟨by omega, ?_, ?_⟩
   ·rw [e1]; simpa using p2
   ·rw [e1, List.modify_succ_cons, List.map_cons, List.map_cons, p3, h1, h2]
theorem mset_new {x y : Int} {kd vd : IntKind} : ∀ (l : List (Int × Int)) (i : Nat), mfind x l i = none → (mset x y l).map (fun p => (Value.int kd p.1, Value.int vd p.2)) = l.map (fun p => (Value.int kd p.1, Value.int vd p.2)) ++ [(Value.int kd x, Value.int vd y)]
 | [], _, _ => rfl
 | (a, b) :: l, i, h => by
  unfold mfind at h
  unfold mset
  by_cases q : x = a
  ·rw [if_pos q] at h; cases h
  ·rw [if_neg q] at h ⊢
   rw [List.map_cons, List.map_cons, mset_new l (i + 1) h]
   rfl
noncomputable def oMapUpdate (P : Program) (o : Oper) (s : St) (T : TypeId) (m ix x : Operand) (k : St → Option R) : Option R :=
 match P.underlying T, asMp s (evl s m), evl s ix with
 | some (.map key _), some (t, kd, vd, l), .val (.int ki i) => match evl s x, P.underlying key with
  | .val (.int vi y), some (.int kk) => if ki = kd ∧ kk = kd ∧ vi = vd then k ((⟨s.tmps, upd t (.mp kd vd (mset i y l)) s.ents, s.nx⟩ : St).put o.dst .dead) else none
  | _, _ => none
 | _, _, _ => none
theorem oMapUpdate_ok {P : Program} {o : Oper} {s : St} {T : TypeId} {m ix x : Operand} {k : St → Option R} {r : R} (ho : o.op = .mapUpdate T m ix x) (h : oMapUpdate P o s T m ix x k = some r) : OOk P o s k r := by
 unfold oMapUpdate at h
 split at h
 ·rename_i key el t kd vd l ki i hT hm hi
  split at h
  ·rename_i vi y kk hx hk
   split at h
   ·rename_i hc
    obtain ⟨rfl, rfl, rfl⟩ := hc
    refine ⟨_, h, OTo.skip fun W0 E a w hs => ?_⟩
    obtain ⟨_, e1, he, b, es, clock, hvs, h0, hF, hg, hes⟩ := asMp_ok hs.toSimS hm (hs.ev m)
    have e2 : a.eval m = .map (some b) := e1.trans hvs
    have e3 : a.eval ix = .int kk i := by have := hs.ev ix; rw [hi] at this; exact this
    have e4 : a.eval x = .int vi y := by have := hs.ev x; rw [hx] at this; exact this
    have hbk : blk (E.vs t) = some b := by rw [hvs]; rfl
    have hfn := findNow_int (kd := kk) (vd := vi) (kk := kk) i es.toList l 0 hes
    have hlt := Go.Proofs.YtjnpcpnjcieheaaGreatW.PrintWords.blk_lt hg
    have hrun : ∃ es' clock', (Instr.mapUpdate T (.map (some b)) (.int kk i) (.int vi y)).run P w = .ok () (World.setO w b (.map es' clock')) ∧ es'.toList.map (fun e => (e.key, e.val)) = (mset i y l).map (fun p => (Value.int kk p.1, Value.int vi p.2)) := by
     unfold Instr.mapUpdate
     simp only [Sem.run_bind, run_underlying hT, Result.andThen_ok, MapKept.run_getObj_map hg, MapKept.run_checkKey hk (k := .int kk i) rfl false 9999, MapKept.run_findKey hk hfn]
     cases hmf : mfind i l 0 with
     | none =>
      refine ⟨es.push { key := .int kk i, val := .int vi y, born := clock }, clock + 1, ?_, ?_⟩
      ·simp only [Option.map_none]
       exact MapKept.run_setObj_map _ hg
      ·rw [mset_new l 0 hmf, Array.toList_push, List.map_append, hes]
       rfl
     | some p =>
      obtain ⟨j, v⟩ := p
      obtain ⟨_, ⟨e, he0, hek⟩, hms⟩ := mset_found (y := y) es.toList l 0 j v hes hmf
      rw [Nat.sub_zero] at he0 hms
      have he1 : es[j]? = some e := by rw [← Array.getElem?_toList]; exact he0
      refine ⟨es.modify j fun e => { e with key := .int kk i, val := .int vi y }, clock, ?_, ?_⟩
      ·simp only [Option.map_some, he1, Option.getD_some, hek, Sem.run_bind]
       have hky : (Instr.keyThatStays (.int kk i) (.int kk i)).run P w = .ok (.int kk i) w := by
        simp [Instr.keyThatStays, Instr.sameBits]
       rw [hky]
       simp only [Result.andThen_ok]
       exact MapKept.run_setObj_map _ hg
      ·rw [Array.toList_modify]; exact hms
    obtain ⟨es', clock', hr, hes'⟩ := hrun
    have hset : (World.setO w b (.map es' clock')).heap[b]? = some (.map es' clock') := by simp [World.setO, hlt]
    refine ⟨World.setO w b (.map es' clock'), E, ?_, Sim.put (hs.writeW (g := b) (e' := .mp kk vi (mset i y l)) (setO_size _ _ _) (fun c hc => setO_other w b _ c hc) (fun B hB => below_setO w b _ hB) he hbk hF ⟨b, es', clock', hvs, h0, hF, hset, hes'⟩) o.dst (av := .dead) trivial, Fr.writeW (setO_size _ _ _) (fun c hc => setO_other w b _ c hc) he hbk hF _ _⟩
    simp only [execOp, ho, e2, e3, e4, Sem.run_bind, hr, Result.andThen_ok]; rfl
   ·cases h
  ·cases h
 ·cases h
end
end Go.Vx
namespace Go.Vx
open Go.RowKit Go.Proofs.YtjnpcpnjcieheaaGreatW.PrintWords
set_option linter.unusedVariables false
set_option linter.unusedSimpArgs false
section
variable {R : Type}
def frz (s : St) (t : Nat) : St :=
 match find t s.ents with
 | some (.row r) => ⟨s.tmps, upd t (.row ⟨r.k, r.T, true, r.xs⟩) s.ents, s.nx⟩
 | _ => s
theorem Sim.frz {W0 : Base} {E : Env} {s : St} {a : Act} {w : World} (h : Sim W0 E s a w) (t : Nat) : ∃ E', Sim W0 E' (Vx.frz s t) a w ∧ Stp E w E' w ∧ (∀ b, E'.F b → b < w.heap.size) ∧ Gz s (Vx.frz s t) E E' := by
 unfold Vx.frz
 split
 ·rename_i r he
  obtain ⟨hu, hok⟩ := h.ents t _ he
  have st : Stp E w ⟨E.vs, fun b => E.F b ∨ blk (E.vs t) = some b, E.U⟩ w := ⟨fun _ _ => rfl, fun _ q => q, fun _ q => .inl q, fun _ _ => rfl⟩
  have hfz : ∀ b, (E.F b ∨ blk (E.vs t) = some b) → b < w.heap.size := fun b q => by
   rcases q with q | q
   ·exact h.fz b q
   ·exact (hok.blk_lt q).2
  have hgz : Gz s ⟨s.tmps, upd t (.row ⟨r.k, r.T, true, r.xs⟩) s.ents, s.nx⟩ E ⟨E.vs, fun b => E.F b ∨ blk (E.vs t) = some b, E.U⟩ := by
   refine ⟨rfl, rfl, rfl, fun t' d ht => ?_, fun b q => .inl q, fun b q => q.imp id fun q => ⟨t, _, he, q⟩⟩
   rw [find_upd] at ht
   by_cases q : t' = t
   ·exact ⟨_, by rw [q]; exact he⟩
   ·rw [if_neg q] at ht; exact ⟨_, ht⟩
  refine ⟨⟨E.vs, fun b => E.F b ∨ blk (E.vs t) = some b, E.U⟩, h.turn st ?_ rfl, st, hfz, hgz⟩
  refine h.toSimS.turn st h.below hfz (fun b q => ?_) h.used ?_ ?_
  ·rcases q with q | q
   ·exact h.old b q
   ·exact .inr (hok.blk_lt q).1
  ·intro t' d ht
   simp only at ht
   rw [find_upd] at ht
   by_cases q : t' = t
   ·rw [if_pos q] at ht
    obtain rfl := Option.some.inj ht
    subst q
    obtain ⟨⟨cells, ho, hr⟩, hF⟩ := hok
    exact .inr ⟨hu, ⟨cells, ho, hr.imp_ fun _ _ q => Rd.step (fun _ _ => rfl) (fun _ q => .inl q) q⟩, fun b hb => ⟨fun _ => rfl, fun _ => .inr hb⟩⟩
   ·rw [if_neg q] at ht
    refine .inl ⟨ht, fun b hb => ⟨rfl, fun q2 => ?_⟩⟩
    rcases q2 with q2 | q2
    ·exact q2
    ·exact (h.apart t' t d _ b q ht he hb q2).elim
  ·intro t1 t2 e1 e2 b hne h1 h2 hb1 hb2
   simp only at h1 h2
   rw [find_upd] at h1 h2
   have f1 : ∃ d, find t1 s.ents = some d := by
    by_cases q : t1 = t
    ·exact ⟨_, by rw [q]; exact he⟩
    ·rw [if_neg q] at h1; exact ⟨_, h1⟩
   have f2 : ∃ d, find t2 s.ents = some d := by
    by_cases q : t2 = t
    ·exact ⟨_, by rw [q]; exact he⟩
    ·rw [if_neg q] at h2; exact ⟨_, h2⟩
   obtain ⟨d1, f1⟩ := f1
   obtain ⟨d2, f2⟩ := f2
   exact h.apart t1 t2 d1 d2 b hne f1 f2 hb1 hb2
 ·exact ⟨E, h, Stp.refl _ _, h.fz, Gz.refl _ _⟩
def frzs (s : St) : List AV → St
 | [] => s
 | .own t :: l => frzs (frz s t) l
 | _ :: l => frzs s l
theorem Sim.frzs {W0 : Base} {a : Act} {w : World} : ∀ (l : List AV) {E : Env} {s : St}, Sim W0 E s a w → ∃ E', Sim W0 E' (Vx.frzs s l) a w ∧ Stp E w E' w ∧ Gz s (Vx.frzs s l) E E'
 | [], E, s, h => ⟨E, h, Stp.refl _ _, Gz.refl _ _⟩
 | c :: l, E, s, h => by
  cases c with
  | own t =>
   obtain ⟨E1, h1, st1, _, g1⟩ := h.frz t
   obtain ⟨E2, h2, st2, g2⟩ := Sim.frzs l h1
   exact ⟨E2, h2, st1.trans st2, g1.trans g2⟩
  | _ => exact Sim.frzs l h
def kindOf (P : Program) : Nat → TypeId → Option K
 | 0, _ => none
 | n + 1, T => match P.underlying T with
  | some (.int k) => some (.int k)
  | some .bool => some .bool
  | some .string => some .str
  | some (.slice e) => (kindOf P n e).map .slice
  | some (.struct fs) => fs.toList.foldr (fun f acc => match kindOf P n f.type, acc with
   | some k, some none => some (some k)
   | some k, some (some l) => some (some (.pair k l))
   | _, _ => none) (some none) |>.bind id
  | some (.array m e) => (List.replicate m ()).foldr (fun _ acc => match kindOf P n e, acc with
   | some k, some none => some (some k)
   | some k, some (some l) => some (some (.pair k l))
   | _, _ => none) (some none) |>.bind id
  | _ => none
def prjs (s : St) (k : K) : Nat → List AV → Option (List k.T)
 | 0, _ => some []
 | n + 1, cs => match prj s false k (cs.take k.sz), prjs s k n (cs.drop k.sz) with
  | some x, some xs => some (x :: xs)
  | _, _ => none
theorem reps_cons {α : Type} {R : α → List Value → Prop} {size : Nat} {x : α} {xs : List α} {c cs : List Value} (hc : c.length = size) (hx : R x c) (h : Reps R size xs cs) : Reps R size (x :: xs) (c ++ cs) := by
 refine ⟨by rw [List.length_append, hc, h.1, List.length_cons, Nat.succ_mul, Nat.add_comm], fun j p hj => ?_⟩
 cases j with
 | zero =>
  obtain rfl := Option.some.inj hj
  rw [Nat.zero_mul, List.drop_zero, ← hc, List.take_left]
  exact hx
 | succ j =>
  have := h.2 j p (by simpa using hj)
  rw [Nat.succ_mul, Nat.add_comm, ← hc, ← List.drop_drop, List.drop_left]
  rw [← hc] at this
  exact this
theorem prjs_rd {W0 : Base} {E : Env} {s : St} {w : World} (hs : SimS W0 E s w) {k : K} : ∀ {n : Nat} {cells : List AV} {xs : List k.T} {vals : List Value}, prjs s k n cells = some xs → All2 (VB E w) cells vals → cells.length = n * k.sz →
  List.length xs = n ∧ Reps (Rd w E.F k) k.sz xs vals
 | 0, cells, xs, vals, h, hc, hl => by
  obtain rfl := Option.some.inj h
  have : vals.length = 0 := by rw [← hc.length, hl, Nat.zero_mul]
  exact ⟨rfl, by rw [List.length_eq_zero_iff.1 this]; exact Reps.none _ _⟩
 | n + 1, cells, xs, vals, h, hc, hl => by
  unfold prjs at h
  split at h
  ·rename_i x ys hx hy
   obtain rfl := Option.some.inj h
   have hR := prj_rd hs (F := E.F) (fun _ q => q) (any := false) (fun q => by cases q) hx (hc.take _)
   obtain ⟨h1, h2⟩ := prjs_rd hs hy (hc.drop _) (by rw [List.length_drop, hl, Nat.succ_mul]; omega)
   refine ⟨by rw [List.length_cons, h1], ?_⟩
   have := reps_cons hR.len hR h2
   rwa [List.take_append_drop] at this
  ·cases h
theorem reps_replicate {α : Type} {Q : α → List Value → Prop} {size : Nat} {x : α} {c : List Value} (hc : c.length = size) (hx : Q x c) : ∀ n, Reps Q size (List.replicate n x) (List.replicate n c).flatten
 | 0 => Reps.none _ _
 | n + 1 => by
  rw [List.replicate_succ, List.replicate_succ, List.flatten_cons]
  exact reps_cons hc hx (reps_replicate hc hx n)
theorem madeCells_flat (z : Array Value) (hz : 0 < z.size) : ∀ n, (madeCells z (n * z.size)).toList = (List.replicate n z.toList).flatten := by
 intro n
 apply List.ext_getElem?
 intro j
 have hfl : ∀ n, ((List.replicate n z.toList).flatten).length = n * z.size := by
  intro n
  induction n with
  | zero => simp
  | succ n ih => rw [List.replicate_succ, List.flatten_cons, List.length_append, ih, Array.length_toList, Nat.succ_mul, Nat.add_comm]
 have hget : ∀ n j, j < n * z.size → ((List.replicate n z.toList).flatten)[j]? = some z[j % z.size]! := by
  intro n
  induction n with
  | zero => intro j hj; omega
  | succ n ih =>
   intro j hj
   rw [List.replicate_succ, List.flatten_cons]
   by_cases q : j < z.size
   ·rw [List.getElem?_append_left (by simpa using q), Nat.mod_eq_of_lt q, Array.getElem?_toList, Array.getElem?_eq_getElem q, getElem!_pos z j q]
   ·rw [List.getElem?_append_right (by simp; omega), Array.length_toList, ih (j - z.size) (by rw [Nat.succ_mul] at hj; omega)]
    rw [← Nat.mod_eq_sub_mod (by omega)]
 by_cases q : j < n * z.size
 ·rw [hget n j q]
  simp [madeCells, q]
 ·rw [List.getElem?_eq_none (by simp [madeCells]; omega), List.getElem?_eq_none (by rw [hfl]; omega)]
noncomputable def oBuildCs (o : Oper) (s : St) (i : TypeInfo) (len : Nat) (parts : Array (Nat × Operand)) (k : St → Option R) : Option R :=
 match i.zero, partsA s parts.toList with
 | some z, some ps => bif Nat.ble (len * i.size) (2 ^ 24) && Nat.beq z.cells.size i.size && Nat.ble 1 i.size then
   (match fillA (fun j => some (j * i.size, i.size)) ((List.replicate len z.cells.toList).flatten.map .val) ps with
   | some out => k (s.put o.dst (.cs len i.size out))
   | none => none) else none
 | _, _ => none
noncomputable def oBuildSlice (P : Program) (o : Oper) (s : St) (T : TypeId) (len : Nat) (parts : Array (Nat × Operand)) (k : St → Option R) : Option R :=
 match P.underlying T with
 | some (.slice e) => match P.info? e, kindOf P 20 e with
  | some i, some ke => match i.zero, partsA s parts.toList with
   | some z, some ps => bif Nat.beq i.size ke.sz && Nat.ble (len * i.size) (2 ^ 24) && Nat.ble len (2 ^ 24) && Nat.beq z.cells.size i.size && Nat.ble 1 i.size then
     (match fillA (fun j => some (j * i.size, i.size)) ((List.replicate len z.cells.toList).flatten.map .val) ps with
     | some out => match prjs (frzs s out) ke len out with
      | some xs => k (((frzs s out).add (.row ⟨ke, e, false, xs⟩)).put o.dst (.own (frzs s out).nx))
      | none => none
     | none => none) else none
   | _, _ => none
  | some i, none => oBuildCs o s i len parts k
  | _, _ => none
 | _ => none
theorem Sim.frozen {W0 : Base} {E : Env} {s : St} {a : Act} {w : World} (h : Sim W0 E s a w) (cs : Array Value) (T : TypeId) :
  Sim W0 ⟨E.vs, fun b => E.F b ∨ b = w.heap.size, E.U⟩ s a (w.alloc (.cells cs T)) ∧ Stp E w ⟨E.vs, fun b => E.F b ∨ b = w.heap.size, E.U⟩ (w.alloc (.cells cs T)) := by
 have hb := below_alloc1 w (.cells cs T)
 have st : Stp E w ⟨E.vs, fun b => E.F b ∨ b = w.heap.size, E.U⟩ (w.alloc (.cells cs T)) := ⟨fun _ _ => rfl, fun _ q => q, fun _ q => .inl q, fun b q => hb.block b (h.fz b q)⟩
 refine ⟨h.turn st ?_ rfl, st⟩
 refine h.toSimS.turn st (below_then h.below h.below.size hb) (fun b q => ?_) (fun b q => ?_) h.used (fun t e ht => .inl ⟨ht, fun b hbk => ?_⟩) h.apart
 ·rw [alloc_size]
  rcases q with q | q
  ·have := h.fz b q; omega
  ·omega
 ·rcases q with q | q
  ·exact h.old b q
  ·rw [q]; exact .inr h.below.size
 ·obtain ⟨_, hok⟩ := h.ents t e ht
  have hlt := (hok.blk_lt hbk).2
  exact ⟨hb.block b hlt, fun q => q.resolve_right (fun e => by omega)⟩
theorem Sim.newRow {W0 : Base} {E : Env} {s : St} {a : Act} {w : World} (h : Sim W0 E s a w) {k : K} {T : TypeId} {xs : List k.T} {cs : Array Value} {v : Value} {c : List Value} (d : Option Tmp) (hv : blk v = some w.heap.size)
  (hown : (w.alloc (.cells cs T)).ownsRow W0.W.heap.size T k.sz v (List.length xs) c) (hr : Reps (Rd w E.F k) k.sz xs c) :
  Sim W0 (E.add s.nx v E.F) ((s.add (.row ⟨k, T, false, xs⟩)).put d (.own s.nx)) (a.put d v) (w.alloc (.cells cs T)) := by
 have hb := below_alloc1 w (.cells cs T)
 refine Sim.put (h.fresh hb (fun _ q => q) (fun b q => ⟨?_, .inl q⟩) ?_ ?_) d ?_
 ·have := h.fz b q; rw [alloc_size]; omega
 ·refine ⟨⟨c, hown, hr.imp_ fun _ _ q => Rd.step (fun b q => hb.block b (h.fz b q)) (fun _ q => q) q⟩, fun b hb' => ⟨fun q => ?_, fun q => by cases q⟩⟩
  rw [hv] at hb'
  obtain rfl := Option.some.inj hb'
  exact absurd (h.fz _ q) (Nat.lt_irrefl _)
 ·intro b hb'
  rw [hv] at hb'
  obtain rfl := Option.some.inj hb'
  exact Nat.le_refl _
 ·exact ⟨.inr rfl, by simp [Env.add]⟩
theorem Fr.newRow {W0 : Base} {o : Oper} {E : Env} {s : St} {a : Act} {w : World} (h : Sim W0 E s a w) {cs : Array Value} {T : TypeId} {v : Value} (hv : blk v = some w.heap.size) (e : Ent) (av : AV) (u : Value) :
  Fr o s ((s.add e).put o.dst av) E a w (E.add s.nx v E.F) (a.put o.dst u) (w.alloc (.cells cs T)) := by
 refine Fr.fresh h (below_alloc1 w _) (put_ents _ _ _) (fun b hb => ?_) _
 rw [hv] at hb
 have := Option.some.inj hb
 omega
theorem fillA_len (place : Nat → Option (Nat × Nat)) : ∀ {parts : List (Nat × List AV)} {cells out : List AV}, fillA place cells parts = some out → out.length = cells.length
 | [], _, _, h => by obtain rfl := Option.some.inj h; rfl
 | (i, new) :: rest, cells, out, h => by
  unfold fillA at h
  split at h
  ·rename_i off size _
   cases hb : Nat.beq new.length size && Nat.ble (off + new.length) cells.length with
   | false => rw [hb] at h; cases h
   | true =>
    rw [hb] at h
    simp only [Bool.and_eq_true] at hb
    rw [fillA_len place h, splice_len (Nat.le_of_ble_eq_true hb.2)]
  ·cases h
theorem run_buildSlice {P : Program} {T e : TypeId} {i : TypeInfo} {z : Value} {len : Nat} {parts : Array (Nat × Value)} {outv : Array Value} (hd : P.underlying T = some (.slice e)) (hi : P.info? e = some i) (hz : i.zero = some z) (hl : len * i.size ≤ 2 ^ 24)
  (hf : Instr.fill (fun j => some (j * i.size, i.size)) (if len * i.size = 0 then #[] else (Array.range (len * i.size)).map (z.cells[· % z.cells.size]!)) parts.toList = some outv) (w : World) :
  (Instr.buildSlice T len parts).run P w = .ok (.slice (some ⟨w.heap.size, 0, none⟩) len len) (w.alloc (.cells outv e)) := by
 by_cases h0 : len * i.size = 0
 ·rw [if_pos h0] at hf
  simp [Instr.buildSlice, run_underlying hd, sizeOf, typeInfo, hi, zeroValue, hz, h0, hf, newRow, newObj, run_newObj', Array.range_zero']
 ·rw [if_neg h0] at hf
  have : ¬ (2 ^ 24 < len * i.size) := by omega
  simp [Instr.buildSlice, run_underlying hd, sizeOf, typeInfo, hi, zeroValue, hz, h0, hf, newRow, newObj, run_newObj', this]
theorem oBuildCs_ok {P : Program} {o : Oper} {s : St} {T e : TypeId} {i : TypeInfo} {len : Nat} {parts : Array (Nat × Operand)} {k : St → Option R} {r : R} (ho : o.op = .buildSlice T len parts) (hd : P.underlying T = some (.slice e)) (hi : P.info? e = some i) (h : oBuildCs o s i len parts k = some r) : OOk P o s k r := by
 unfold oBuildCs at h
 split at h
 ·rename_i z ps hz hps
  cases hc : Nat.ble (len * i.size) (2 ^ 24) && Nat.beq z.cells.size i.size && Nat.ble 1 i.size with
  | false => rw [hc] at h; cases h
  | true =>
   rw [hc] at h
   simp only [cond_true] at h
   simp only [Bool.and_eq_true] at hc
   obtain ⟨⟨hl, hzs⟩, hpos⟩ := hc
   have hzs := Nat.eq_of_beq_eq_true hzs
   have hpos := Nat.le_of_ble_eq_true hpos
   have hl := Nat.le_of_ble_eq_true hl
   have hcells : (List.replicate len z.cells.toList).flatten = ((if len * i.size = 0 then #[] else (Array.range (len * i.size)).map (z.cells[· % z.cells.size]!)) : Array Value).toList := by
    rw [← hzs, ← madeCells_flat z.cells (by omega) len]
    by_cases h0 : len * z.cells.size = 0
    ·rw [if_pos h0, h0]; simp [madeCells]
    ·rw [if_neg h0]; rfl
   rw [hcells] at h
   split at h
   ·rename_i out hout
    refine ⟨_, h, OTo.of fun W0 E a w hs => ?_⟩
    obtain ⟨outv, hf, hR⟩ := fillA_ok (partsA_ok hs hps) (vals_all2 (E := E) (w := w) _) hout
    have e2 : (parts.map fun (p : Nat × Operand) => (p.1, a.eval p.2)).toList = parts.toList.map fun (p : Nat × Operand) => (p.1, a.eval p.2) := by simp
    rw [← e2] at hf
    have hrun := run_buildSlice hd hi hz hl hf w
    obtain ⟨h1, st⟩ := hs.frozen outv e
    refine ⟨.slice (some ⟨w.heap.size, 0, none⟩) len len, w.alloc (.cells outv e), ⟨E.vs, fun b => E.F b ∨ b = w.heap.size, E.U⟩, ?_, h1.put o.dst (av := .cs len i.size out) ?_, ⟨st, ⟨_, rfl⟩, by rw [alloc_size]; omega, fun b hb _ => (below_alloc1 w (.cells outv e)).block b hb, fun t e' b ht hbk => ?_, fun b q => ?_, fun t q => .inl q⟩⟩
    ·simp only [execOp, ho, Sem.run_bind]
     rw [show (parts.map fun (x : Nat × Operand) => match x with | (i, x) => (i, a.eval x)) = parts.map fun (p : Nat × Operand) => (p.1, a.eval p.2) from rfl, hrun]
     rfl
    ·refine ⟨⟨w.heap.size, 0, none⟩, len, outv.toList, rfl, .inr rfl, hR.imp fun _ _ q => VB.step st q, fun j v hj => ?_⟩
     rw [add_off, Nat.zero_add, cell_of_row (w.alloc (.cells outv e)) w.heap.size j outv e (0, 0) (heap_alloc_new w _), ← Array.getElem?_toList]
     exact hj
    ·rw [put_ents] at ht
     exact .inr ⟨t, e', ht, hbk⟩
    ·rcases q with q | q
     ·exact .inl q
     ·exact .inr (.inl (by omega))
   ·cases h
 ·cases h
theorem oBuildSlice_ok {P : Program} {o : Oper} {s : St} {T : TypeId} {len : Nat} {parts : Array (Nat × Operand)} {k : St → Option R} {r : R} (ho : o.op = .buildSlice T len parts) (h : oBuildSlice P o s T len parts k = some r) : OOk P o s k r := by
 unfold oBuildSlice at h
 split at h
 ·rename_i e hd
  split at h
  ·rename_i i ke hi hke
   split at h
   ·rename_i z ps hz hps
    cases hc : Nat.beq i.size ke.sz && Nat.ble (len * i.size) (2 ^ 24) && Nat.ble len (2 ^ 24) && Nat.beq z.cells.size i.size && Nat.ble 1 i.size with
    | false => rw [hc] at h; cases h
    | true =>
     rw [hc] at h
     simp only [cond_true] at h
     simp only [Bool.and_eq_true] at hc
     obtain ⟨⟨⟨⟨hsz, hl⟩, hlen⟩, hzs⟩, hpos⟩ := hc
     have hzs := Nat.eq_of_beq_eq_true hzs
     have hpos := Nat.le_of_ble_eq_true hpos
     have hcells : (List.replicate len z.cells.toList).flatten = ((if len * i.size = 0 then #[] else (Array.range (len * i.size)).map (z.cells[· % z.cells.size]!)) : Array Value).toList := by
      rw [← hzs, ← madeCells_flat z.cells (by omega) len]
      by_cases h0 : len * z.cells.size = 0
      ·rw [if_pos h0, h0]; simp [madeCells]
      ·rw [if_neg h0]; rfl
     rw [hcells] at h
     have hsz := Nat.eq_of_beq_eq_true hsz
     have hl := Nat.le_of_ble_eq_true hl
     have hlen := Nat.le_of_ble_eq_true hlen
     split at h
     ·rename_i out hout
      split at h
      ·rename_i xs hxs
       refine ⟨_, h, OTo.of fun W0 E a w hs => ?_⟩
       obtain ⟨outv, hf, hR⟩ := fillA_ok (partsA_ok hs hps) (vals_all2 (E := E) (w := w) _) hout
       obtain ⟨E1, h1, st1, g1⟩ := hs.frzs out
       have hR1 := hR.imp fun _ _ q => VB.step st1 q
       have hol : out.length = len * ke.sz := by
        rw [fillA_len _ hout, List.length_map, Array.length_toList, ← hsz]
        split
        ·rename_i h0; rw [h0]; rfl
        ·simp
       obtain ⟨hn, hreps⟩ := prjs_rd h1.toSimS hxs hR1 hol
       have e2 : (parts.map fun (p : Nat × Operand) => (p.1, a.eval p.2)).toList = parts.toList.map fun (p : Nat × Operand) => (p.1, a.eval p.2) := by simp
       rw [← e2] at hf
       have hrun := run_buildSlice hd hi hz hl hf w
       have hown : (w.alloc (.cells outv e)).ownsRow W0.W.heap.size e ke.sz (.slice (some ⟨w.heap.size, 0, none⟩) len len) (List.length xs) outv.toList := by
        rw [hn]
        exact World.ownsRow_lit w outv len hs.below.size (by simp only [maxLen]; omega) (by rw [← Array.length_toList, ← hR.length, hol])
       refine ⟨_, _, _, ?_, h1.newRow o.dst rfl hown hreps, Fr.pre g1 (Fr.newRow h1 rfl _ _ _)⟩
       simp only [execOp, ho, Sem.run_bind]
       rw [show (parts.map fun (x : Nat × Operand) => match x with | (i, x) => (i, a.eval x)) = parts.map fun (p : Nat × Operand) => (p.1, a.eval p.2) from rfl, hrun]
       rfl
      ·cases h
     ·cases h
   ·cases h
  ·rename_i i hi hke
   exact oBuildCs_ok ho hd hi h
  ·cases h
 ·cases h
end
end Go.Vx
