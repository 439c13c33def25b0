/- Contracts that the print's walks have shown, as contracts of abstract functions, and the other way round. -/
import Derived.Test.YtcanekmlabehgaaVn
namespace Go.Vx
open Go.RowKit Go.Proofs.YtcanekmlabehgaaW.PrintWords
set_option linter.unusedVariables false
set_option linter.unusedSimpArgs false
theorem arg_ints {w : World} {F : Nat → Prop} {k : IntKind} {xs : List Int} {cs : List Value} (h : Rd w F (.slice (.int k)) xs cs) : ∃ A c, cs = [.slice A xs.length c] ∧ xs.length ≤ c ∧ Kd.C (Kd.int k) w A xs.length xs := by
  obtain ⟨A, c, rfl, hc, hr⟩ := Rd.kd h
  exact ⟨A, c, rfl, hc, hr⟩
theorem arg_bools {w : World} {F : Nat → Prop} {xs : List Bool} {cs : List Value} (h : Rd w F (.slice .bool) xs cs) : ∃ A c, cs = [.slice A xs.length c] ∧ xs.length ≤ c ∧ Kd.C Kd.bool w A xs.length xs := by
  obtain ⟨A, c, rfl, hc, hr⟩ := Rd.kd h
  exact ⟨A, c, rfl, hc, hr⟩
theorem arg_rows {w : World} {F : Nat → Prop} {k : IntKind} {e : Nat} {xs : List (List Int)} {cs : List Value} (h : Rd w F (.slice (.slice (.int k))) xs cs) : ∃ A c, cs = [.slice A xs.length c] ∧ xs.length ≤ c ∧ Kd.C (Kd.slice e (Kd.int k)) w A xs.length xs := by
  obtain ⟨A, c, rfl, hc, hr⟩ := Rd.kd h
  exact ⟨A, c, rfl, hc, hr⟩
theorem rd_of_ints {w : World} {k : IntKind} {A : Option Addr} {c : Nat} {xs : List Int} (h : Kd.C (Kd.int k) w A xs.length xs) (hc : xs.length ≤ c) : Rd w (fun b => b < w.heap.size) (.slice (.int k)) xs [.slice A xs.length c] :=
  Rd.of_kd (k := .slice (.int k)) rfl ⟨A, c, rfl, hc, h⟩
theorem own_ints {w : World} {B T : Nat} {k : IntKind} {ok : Nat → Prop} {v : Value} {xs : List Int} {F : Nat → Prop} (h : Kd.R (Kd.int k) T w B ok v xs) (hF : ∀ b, blk v = some b → ¬ F b) : RI B w F (.own (.int k) T) xs [v] := by
  obtain ⟨_, inner, ho, hr⟩ := h
  exact ⟨v, rfl, ⟨inner, ho, hr.imp_ fun _ _ q => q⟩, hF⟩
theorem own_bools {w : World} {B T : Nat} {ok : Nat → Prop} {v : Value} {xs : List Bool} {F : Nat → Prop} (h : Kd.R Kd.bool T w B ok v xs) (hF : ∀ b, blk v = some b → ¬ F b) : RI B w F (.own .bool T) xs [v] := by
  obtain ⟨_, inner, ho, hr⟩ := h
  exact ⟨v, rfl, ⟨inner, ho, hr.imp_ fun _ _ q => q⟩, hF⟩
/-- What is left of a world outside of some blocks reads nothing. -/
theorem Rd.of_foot {w : World} {ok : Nat → Prop} {k : K} {x : k.T} {cs : List Value} (hk : k.ok = true) (h : ∀ w' : World, (∀ b, ok b → b < w.heap.size → w'.heap[b]? = w.heap[b]?) → k.kd.K w' x cs) : Rd w (fun b => ok b ∧ b < w.heap.size) k x cs := by
  classical
  let w' : World := { w with heap := (Array.range w.heap.size).map fun b => if ok b then w.heap.getD b (.coro none) else .coro none }
  have hsz : w'.heap.size = w.heap.size := by simp [w']
  have hget : ∀ b, b < w.heap.size → w'.heap[b]? = some (if ok b then w.heap.getD b (.coro none) else .coro none) := fun b hb => by simp [w', hb]
  have hsame : ∀ b, ok b → b < w.heap.size → w'.heap[b]? = w.heap[b]? := fun b h1 h2 => by
    rw [hget b h2, if_pos h1]
    simp [Array.getD, h2]
  have gen : ∀ {k : K} {x : k.T} {cs : List Value}, k.ok = true → k.kd.K w' x cs → Rd w' (fun b => ok b ∧ b < w.heap.size) k x cs := by
    intro k
    induction k with
    | int _ => intro _ _ _ h; exact h
    | bool => intro _ _ _ h; exact h
    | str => intro _ _ _ h; exact h
    | slice e ih =>
      intro xs cs hk h
      obtain ⟨A, c, rfl, hc, hr⟩ := h
      simp only [K.ok, Bool.and_eq_true, decide_eq_true_eq] at hk
      have h2 := hr.2.2
      simp only [K.kd_sz] at h2
      refine ⟨A, c, rfl, hc, ⟨hr.1, hr.2.1, fun hn => ?_⟩, fun hn ad ha => ?_⟩
      · obtain ⟨ad, ha, hcells⟩ := h2 hn
        refine ⟨ad, ha, fun j p hj => ?_⟩
        obtain ⟨cl, hs, hp, hcell⟩ := hcells j p hj
        exact ⟨cl, hs, ih hk.2 hp, hcell⟩
      · obtain ⟨ad', ha', hcells⟩ := h2 hn
        obtain rfl : ad' = ad := Option.some.inj (ha'.symm.trans ha)
        obtain ⟨cl, hs, hp, hcell⟩ := hcells 0 (List.getD xs 0 e.dflt) (head_get (α := e.T) e.dflt xs hn)
        have hl : 0 < cl.length := by omega
        have hc0 := hcell 0 cl[0] (List.getElem?_eq_getElem hl)
        have hlt := World.block_lt_of_cell? w' _ hc0
        rw [add_block, hsz] at hlt
        refine ⟨?_, hlt⟩
        by_cases q : ok ad'.block
        · exact q
        · have h3 := hget _ hlt
          rw [if_neg q] at h3
          simp only [World.cell?, add_block, h3] at hc0
          cases hc0
    | pair a b iha ihb =>
      intro x cs hk h
      obtain ⟨c0, c1, rfl, h0, h1⟩ := h
      simp only [K.ok, Bool.and_eq_true] at hk
      exact ⟨c0, c1, rfl, iha hk.1 h0, ihb hk.2 h1⟩
    | unit => intro _ _ _ h; exact h
  exact Rd.step (fun b hb => (hsame b hb.1 hb.2).symm) (fun _ q => q) (gen hk (h w' hsame))
/-- Rows of numbers' rows that are all new. -/
theorem im_rows {w : World} {B T e : Nat} {k : IntKind} {ok : Nat → Prop} {v : Value} {xs : List (List Int)} (h : Kd.S (Kd.slice e (Kd.int k)) T w B ok v xs) : Rd w (fun b => B ≤ b ∧ b < w.heap.size) (.slice (.slice (.int k))) xs [v] := by
  obtain ⟨A, c, rfl, hc, _⟩ := Kd.S_reads h
  have hf := Kd.S_F (Kd.S_bound h)
  have := Rd.of_foot (w := w) (ok := fun b => B ≤ b) (k := .slice (.slice (.int k))) (x := xs) (cs := [.slice A xs.length c]) rfl (fun w' hw => ⟨A, c, rfl, hc, hf w' fun b hb hlt => hw b hb.2.1 hlt⟩)
  exact this
theorem im_ints {w : World} {B T : Nat} {k : IntKind} {ok : Nat → Prop} {v : Value} {xs : List Int} (h : Kd.R (Kd.int k) T w B ok v xs) : Rd w (fun b => B ≤ b ∧ b < w.heap.size) (.slice (.int k)) xs [v] := by
  obtain ⟨A, c, rfl, hc, _⟩ := Kd.R_reads h
  have hf := Kd.R_F (Kd.R_bound h)
  exact Rd.of_foot (w := w) (ok := fun b => B ≤ b) (k := .slice (.int k)) (x := xs) (cs := [.slice A xs.length c]) rfl (fun w' hw => ⟨A, c, rfl, hc, hf w' fun b hb hlt => hw b hb.2.1 hlt⟩)
/-- A call that leaves the world alone but for draws. -/
theorem drawn_below {w w' : World} (h : Drawn0 w w') : Below w.heap.size w w' := h.below
end Go.Vx
