/- Kinds of data, what cells of a world read as them, and abstract values. -/
import Derived.Test.YtcanekmlabehgaaWWords
import Derived.Test.YtcanekmlabehgaaWShare
import Derived.KernelRfl
namespace Go.Vx
open Go.RowKit Go.Proofs.YtcanekmlabehgaaW.PrintWords
set_option linter.unusedVariables false
set_option linter.unusedSimpArgs false

/-- Kinds of data. -/
inductive K where
  | int (k : IntKind)
  | bool
  | str
  | slice (e : K)
  | pair (a b : K)
  | unit
/-- What data of a kind are. -/
def K.T : K → Type
  | .int _ => Int
  | .bool => Bool
  | .str => ByteArray
  | .slice e => List e.T
  | .pair a b => a.T × b.T
  | .unit => Unit
/-- How many cells they take. -/
def K.sz : K → Nat
  | .pair a b => a.sz + b.sz
  | .unit => 0
  | _ => 1
def K.dflt : (k : K) → k.T
  | .int _ => (0 : Int)
  | .bool => false
  | .str => ByteArray.empty
  | .slice e => ([] : List e.T)
  | .pair a b => (a.dflt, b.dflt)
  | .unit => ()
/-- Two kinds that are one. -/
def K.same : (a b : K) → Option (PLift (a = b))
  | .int k, .int l => if h : k = l then some ⟨by rw [h]⟩ else none
  | .bool, .bool => some ⟨rfl⟩
  | .str, .str => some ⟨rfl⟩
  | .slice a, .slice b => match K.same a b with
    | some h => some ⟨by rw [h.down]⟩
    | none => none
  | .pair a b, .pair c d => match K.same a c, K.same b d with
    | some h, some g => some ⟨by rw [h.down, g.down]⟩
    | _, _ => none
  | .unit, .unit => some ⟨rfl⟩
  | _, _ => none
def K.cast (a b : K) (x : a.T) : Option b.T :=
  match K.same a b with
  | some h => some (h.down ▸ x)
  | none => none
theorem K.cast_eq {a b : K} {x : a.T} {y : b.T} (h : K.cast a b x = some y) : ∃ e : a = b, e ▸ x = y := by
  unfold K.cast at h
  split at h
  · rename_i p _
    exact ⟨p.down, Option.some.inj h⟩
  · cases h

/-- Cells that read as a datum; the blocks that it lies in satisfy F. -/
def Rd (w : World) (F : Nat → Prop) : (k : K) → k.T → List Value → Prop
  | .int k, x, cs => cs = [.int k x]
  | .bool, x, cs => cs = [.bool x]
  | .str, x, cs => cs = [.string x]
  | .slice e, xs, cs => ∃ A c, cs = [.slice A (List.length xs) c] ∧ List.length xs ≤ c ∧ ReadsRow (Rd w F e) e.sz w A (List.length xs) xs ∧ (0 < List.length xs → ∀ ad, A = some ad → F ad.block)
  | .pair a b, x, cs => ∃ c0 c1, cs = c0 ++ c1 ∧ Rd w F a x.1 c0 ∧ Rd w F b x.2 c1
  | .unit, _, cs => cs = []
theorem Rd.len {w : World} {F : Nat → Prop} : ∀ {k : K} {x : k.T} {cs : List Value}, Rd w F k x cs → cs.length = k.sz
  | .int _, _, _, h => by rw [show _ = _ from h]; rfl
  | .bool, _, _, h => by rw [show _ = _ from h]; rfl
  | .str, _, _, h => by rw [show _ = _ from h]; rfl
  | .slice _, _, _, h => by obtain ⟨A, c, rfl, _⟩ := h; rfl
  | .pair a b, _, _, h => by
    obtain ⟨c0, c1, rfl, h0, h1⟩ := h
    rw [List.length_append, Rd.len h0, Rd.len h1]; rfl
  | .unit, _, _, h => by rw [show _ = _ from h]; rfl
theorem Rd.one {w : World} {F : Nat → Prop} : ∀ {k : K} {x : k.T} {cs : List Value}, Rd w F k x cs → ∀ u ∈ cs, u.oneCell' = true
  | .int _, _, _, h, u, hu => by rw [show _ = _ from h] at hu; rw [List.mem_singleton.1 hu]; rfl
  | .bool, _, _, h, u, hu => by rw [show _ = _ from h] at hu; rw [List.mem_singleton.1 hu]; rfl
  | .str, _, _, h, u, hu => by rw [show _ = _ from h] at hu; rw [List.mem_singleton.1 hu]; rfl
  | .slice _, _, _, h, u, hu => by obtain ⟨A, c, rfl, _⟩ := h; rw [List.mem_singleton.1 hu]; rfl
  | .pair a b, _, _, h, u, hu => by
    obtain ⟨c0, c1, rfl, h0, h1⟩ := h
    rcases List.mem_append.1 hu with q | q
    · exact Rd.one h0 u q
    · exact Rd.one h1 u q
  | .unit, _, _, h, u, hu => by rw [show _ = _ from h] at hu; cases hu
theorem cell_same {w w' : World} {ad : Addr} {v : Value} (h : w'.heap[ad.block]? = w.heap[ad.block]?) (hc : w.cell? ad = some v) : w'.cell? ad = some v := by
  simpa [World.cell?, h] using hc
theorem add_block (ad : Addr) (n : Nat) : (ad.add n).block = ad.block := by unfold Addr.add; split <;> rfl
theorem Rd.step {w w' : World} {F F' : Nat → Prop} (hm : ∀ b, F b → w'.heap[b]? = w.heap[b]?) (hF : ∀ b, F b → F' b) : ∀ {k : K} {x : k.T} {cs : List Value}, Rd w F k x cs → Rd w' F' k x cs
  | .int _, _, _, h => h
  | .bool, _, _, h => h
  | .str, _, _, h => h
  | .slice e, xs, _, h => by
    obtain ⟨A, c, rfl, hc, hr, hf⟩ := h
    refine ⟨A, c, rfl, hc, ⟨hr.1, hr.2.1, fun hn => ?_⟩, fun hn ad ha => hF _ (hf hn ad ha)⟩
    obtain ⟨ad, ha, hcells⟩ := hr.2.2 hn
    refine ⟨ad, ha, fun j p hj => ?_⟩
    obtain ⟨cl, hs, hp, hcell⟩ := hcells j p hj
    exact ⟨cl, hs, Rd.step hm hF hp, fun i u hu => cell_same (by rw [add_block]; exact hm _ (hf hn ad ha)) (hcell i u hu)⟩
  | .pair a b, _, _, h => by
    obtain ⟨c0, c1, rfl, h0, h1⟩ := h
    exact ⟨c0, c1, rfl, Rd.step hm hF h0, Rd.step hm hF h1⟩
  | .unit, _, _, h => h
/-- A kind as the print's own words have it. -/
def K.kd : (k : K) → Kd k.T
  | .int k => Kd.int k
  | .bool => Kd.bool
  | .str => Kd.string
  | .slice e => Kd.slice 0 e.kd
  | .pair a b => Kd.pair a.kd b.kd
  | .unit => { sz := 0, E := [], K := fun _ _ cs => cs = [], M := fun _ _ _ _ cs => cs = [], K_len := fun h => (by rw [h]; rfl), K_one := fun h u hu => (by rw [h] at hu; cases hu), K_below := fun _ h => h, K_of_M := fun h => h, M_mono := fun _ h => h, M_bound := fun h => h, M_move := fun _ h => h, M_lower := fun _ h => h }
theorem K.kd_sz : ∀ k : K, k.kd.sz = k.sz
  | .int _ => rfl
  | .bool => rfl
  | .str => rfl
  | .slice _ => rfl
  | .pair a b => by show a.kd.sz + b.kd.sz = a.sz + b.sz; rw [K.kd_sz a, K.kd_sz b]
  | .unit => rfl
theorem Rd.kd {w : World} {F : Nat → Prop} : ∀ {k : K} {x : k.T} {cs : List Value}, Rd w F k x cs → k.kd.K w x cs
  | .int _, _, _, h => h
  | .bool, _, _, h => h
  | .str, _, _, h => h
  | .slice e, xs, _, h => by
    obtain ⟨A, c, rfl, hc, hr, hf⟩ := h
    refine ⟨A, c, rfl, hc, hr.1, hr.2.1, fun hn => ?_⟩
    obtain ⟨ad, ha, hcells⟩ := hr.2.2 hn
    refine ⟨ad, ha, fun j p hj => ?_⟩
    obtain ⟨cl, hs, hp, hcell⟩ := hcells j p hj
    exact ⟨cl, by rw [K.kd_sz]; exact hs, Rd.kd hp, fun i u hu => by rw [K.kd_sz]; exact hcell i u hu⟩
  | .pair a b, _, _, h => by
    obtain ⟨c0, c1, rfl, h0, h1⟩ := h
    exact ⟨c0, c1, rfl, Rd.kd h0, Rd.kd h1⟩
  | .unit, _, _, h => h
theorem Rd.sized : ∀ (k : K), k.sz = 0 → ∀ {w : World} {F : Nat → Prop} {x : k.T} {cs : List Value}, Rd w F k x cs → cs = []
  | .pair a b, h0, w, F, x, cs, h => by
    obtain ⟨c0, c1, rfl, h1, h2⟩ := h
    have h0' : a.sz + b.sz = 0 := h0
    rw [Rd.sized a (by omega) h1, Rd.sized b (by omega) h2]; rfl
  | .unit, _, _, _, _, _, h => h
theorem head_get {α : Type} (d : α) (xs : List α) (h : 0 < xs.length) : xs[0]? = some (xs.getD 0 d) := by
  cases xs with
  | nil => simp at h
  | cons a l => rfl
/-- Elements take at least a cell. -/
def K.ok : K → Bool
  | .slice e => decide (0 < e.sz) && e.ok
  | .pair a b => a.ok && b.ok
  | _ => true
/-- What the print's words say of what came in. -/
theorem Rd.of_kd {w : World} : ∀ {k : K} {x : k.T} {cs : List Value}, k.ok = true → k.kd.K w x cs → Rd w (fun b => b < w.heap.size) k x cs
  | .int _, _, _, _, h => h
  | .bool, _, _, _, h => h
  | .str, _, _, _, h => h
  | .slice e, xs, _, hk, h => by
    obtain ⟨A, c, rfl, hc, hr⟩ := h
    simp only [K.ok, Bool.and_eq_true, decide_eq_true_eq] at hk
    have h2 := hr.2.2
    simp only [K.kd_sz] at h2
    refine ⟨A, c, rfl, hc, ⟨hr.1, hr.2.1, fun hn => ?_⟩, fun hn ad ha => ?_⟩
    · obtain ⟨ad, ha, hcells⟩ := h2 hn
      refine ⟨ad, ha, fun j p hj => ?_⟩
      obtain ⟨cl, hs, hp, hcell⟩ := hcells j p hj
      exact ⟨cl, hs, Rd.of_kd hk.2 hp, hcell⟩
    · obtain ⟨ad', ha', hcells⟩ := h2 hn
      obtain rfl : ad' = ad := Option.some.inj (ha'.symm.trans ha)
      obtain ⟨cl, hs, hp, hcell⟩ := hcells 0 (List.getD xs 0 e.dflt) (head_get (α := e.T) e.dflt xs hn)
      have hl : 0 < cl.length := by omega
      have := World.block_lt_of_cell? w _ (hcell 0 cl[0] (List.getElem?_eq_getElem hl))
      rwa [add_block] at this
  | .pair a b, _, _, hk, h => by
    obtain ⟨c0, c1, rfl, h0, h1⟩ := h
    simp only [K.ok, Bool.and_eq_true] at hk
    exact ⟨c0, c1, rfl, Rd.of_kd hk.1 h0, Rd.of_kd hk.2 h1⟩
  | .unit, _, _, _, h => h
end Go.Vx
