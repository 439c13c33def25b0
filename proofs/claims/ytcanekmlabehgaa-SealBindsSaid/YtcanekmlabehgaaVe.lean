/- Quiet operations, the second part: memory that is read, addresses, slices, aggregates, calls. -/
import Derived.Test.YtcanekmlabehgaaVd
import Derived.Laws.NewBlocks
namespace Go.Vx
open Go.RowKit Go.Proofs.YtcanekmlabehgaaW.PrintWords
set_option linter.unusedVariables false
set_option linter.unusedSimpArgs false

theorem zip_all2 {E : Env} {w : World} {W0 : Base} : True := trivial
/-- Cells laid over others. -/
def splice {α : Type} (cells : List α) (off : Nat) (new : List α) : List α := cells.take off ++ new ++ cells.drop (off + new.length)
theorem splice_len {α : Type} {cells : List α} {off : Nat} {new : List α} (h : off + new.length ≤ cells.length) : (splice cells off new).length = cells.length := by
  simp [splice]; omega
theorem All2.splice {α β : Type} {R : α → β → Prop} {l : List α} {m : List β} {l' : List α} {m' : List β} (off : Nat) (h : All2 R l m) (h' : All2 R l' m') : All2 R (splice l off l') (splice m off m') := by
  unfold Vx.splice
  rw [h'.length]
  exact ((h.take off).append h').append (h.drop _)
theorem set_splice {α : Type} : ∀ (l : List α) (off : Nat) (x : α), off < l.length → l.set off x = l.take off ++ x :: l.drop (off + 1)
  | [], _, _, h => by simp at h
  | a :: l, 0, x, _ => by simp
  | a :: l, off + 1, x, h => by simp [set_splice l off x (by simpa using h)]
theorem foldl_set (off : Nat) : ∀ (vs : List Value) (k : Nat) (cur : Array Value), off + k + vs.length ≤ cur.size →
    ((vs.zipIdx k).foldl (fun cs (p : Value × Nat) => cs.setIfInBounds (off + p.2) p.1) cur).toList = splice cur.toList (off + k) vs
  | [], k, cur, _ => by simp [splice]
  | v :: vs, k, cur, h => by
    simp only [List.length_cons] at h
    simp only [List.zipIdx_cons, List.foldl_cons]
    rw [foldl_set off vs (k + 1) _ (by simp; omega)]
    simp only [Array.toList_setIfInBounds]
    have hlt : off + k < cur.toList.length := by simp; omega
    unfold splice
    rw [set_splice _ _ _ hlt, List.take_append, List.drop_append]
    have e1 : (cur.toList.take (off + k)).length = off + k := by simp; omega
    have e3 : off + (k + 1) - (cur.toList.take (off + k)).length = 1 := by rw [e1]; omega
    have e4 : off + (k + 1) + vs.length - (cur.toList.take (off + k)).length = vs.length + 1 := by rw [e1]; omega
    rw [e3, e4, List.take_of_length_le (l := cur.toList.take (off + k)) (by rw [e1]; omega), List.drop_of_length_le (l := cur.toList.take (off + k)) (by rw [e1]; omega)]
    simp only [List.take_succ_cons, List.take_zero, List.drop_succ_cons, List.nil_append, List.append_assoc, List.drop_drop, List.length_cons, List.singleton_append, List.cons_append]
    rw [show off + k + 1 + vs.length = off + k + (vs.length + 1) by omega]
/-- The cells of an abstract value. -/
def cellsA (s : St) : AV → Option (List AV)
  | .agg cs => some cs
  | .val (.agg cs) => some (cs.toList.map .val)
  | .val v => some [.val v]
  | .own t => match find t s.ents with
    | some _ => some [.own t]
    | none => none
  | .sh k xs => some [.sh k xs]
  | .ptr t o => some [.ptr t o]
  | .epo t i z o => some [.epo t i z o]
  | .fn f cs => some [.fn f cs]
  | _ => none
theorem cells_noagg {v : Value} (h : ∀ cs, v ≠ .agg cs) : v.cells = #[v] := by
  cases v <;> first | rfl | exact absurd rfl (h _)
theorem EntOK.noagg {W0 : Base} {E : Env} {w : World} {v : Value} {e : Ent} (h : EntOK W0 E w v e) : ∀ cs, v ≠ .agg cs := by
  intro cs q
  subst q
  cases e with
  | row r =>
    obtain ⟨⟨_, ho, _⟩, _⟩ := h
    rcases ho.2 with ⟨q, _⟩ | ⟨_, _, _, q, _⟩ <;> cases q
  | box T cells => obtain ⟨b, vals, q, _⟩ := h; cases q
theorem cellsA_ok {W0 : Base} {E : Env} {s : St} {w : World} (hs : SimS W0 E s w) {av : AV} {v : Value} {cs : List AV} (h : cellsA s av = some cs) (hv : VR E w av v) : All2 (VB E w) cs v.cells.toList := by
  match av, h, hv with
  | .agg cells, h, hv =>
    obtain rfl := Option.some.inj h
    obtain ⟨vals, rfl, hc⟩ := hv
    exact hc
  | .val u, h, hv =>
    obtain rfl : v = u := hv
    cases v with
    | agg cells =>
      obtain rfl := Option.some.inj h
      show All2 (VB E w) _ cells.toList
      have := All2.map (R := VB E w) (fun v : Value => AV.val v) id (fun _ => rfl) cells.toList
      simpa using this
    | _ => obtain rfl := Option.some.inj h; exact ⟨rfl, trivial⟩
  | .own t, h, hv =>
    simp only [cellsA] at h
    split at h
    · rename_i e he
      obtain rfl := Option.some.inj h
      obtain ⟨hu, hok⟩ := hs.ents _ _ he
      have hne : ∀ cs, v ≠ .agg cs := by rw [hv.2]; exact hok.noagg
      rw [cells_noagg hne]
      exact ⟨hv, trivial⟩
    · cases h
  | .sh k xs, h, hv =>
    obtain rfl := Option.some.inj h
    have hv' := hv
    obtain ⟨A, c, e, _⟩ := hv'
    obtain rfl : v = _ := by injection e
    exact ⟨hv, trivial⟩
  | .ptr t o, h, hv =>
    obtain rfl := Option.some.inj h
    have hv' := hv
    obtain ⟨_, b, _, rfl⟩ := hv'
    exact ⟨hv, trivial⟩
  | .epo t i z o, h, hv =>
    obtain rfl := Option.some.inj h
    have hv' := hv
    obtain ⟨_, g, n, c, _, _, rfl⟩ := hv'
    exact ⟨hv, trivial⟩
  | .fn f cs', h, hv =>
    obtain rfl := Option.some.inj h
    have hv' := hv
    obtain ⟨vals, rfl, _⟩ := hv'
    exact ⟨hv, trivial⟩
def fillA (place : Nat → Option (Nat × Nat)) : List AV → List (Nat × List AV) → Option (List AV)
  | cells, [] => some cells
  | cells, (i, new) :: rest => match place i with
    | some (off, size) => bif Nat.beq new.length size && Nat.ble (off + new.length) cells.length then fillA place (splice cells off new) rest else none
    | none => none
theorem fillA_ok {E : Env} {w : World} {place : Nat → Option (Nat × Nat)} : ∀ {parts : List (Nat × List AV)} {partsV : List (Nat × Value)} {cells : List AV} {vals : Array Value} {out : List AV},
    All2 (fun p q => p.1 = q.1 ∧ All2 (VB E w) p.2 q.2.cells.toList) parts partsV → All2 (VB E w) cells vals.toList → fillA place cells parts = some out →
    ∃ outv, Instr.fill place vals partsV = some outv ∧ All2 (VB E w) out outv.toList
  | [], [], cells, vals, out, _, hc, h => ⟨vals, rfl, by obtain rfl := Option.some.inj h; exact hc⟩
  | (i, new) :: rest, (j, v) :: restV, cells, vals, out, hp, hc, h => by
    obtain ⟨⟨e, hn⟩, hp'⟩ := hp
    simp only at e hn
    subst e
    unfold fillA at h
    cases hpl : place i with
    | none => rw [hpl] at h; cases h
    | some q =>
      obtain ⟨off, size⟩ := q
      rw [hpl] at h
      simp only at h
      cases hb : Nat.beq new.length size && Nat.ble (off + new.length) cells.length with
      | false => rw [hb] at h; cases h
      | true =>
        rw [hb] at h
        simp only [Bool.and_eq_true] at hb
        have h1 : new.length = size := Nat.eq_of_beq_eq_true hb.1
        have h2 : off + new.length ≤ cells.length := Nat.le_of_ble_eq_true hb.2
        have hl := hc.length
        have hl2 := hn.length
        have hsz : v.cells.size = size := by rw [← Array.length_toList, ← hl2, h1]
        have hfold := foldl_set off v.cells.toList 0 vals (by rw [← hl2, ← Array.length_toList, ← hl]; omega)
        have hall : All2 (VB E w) (splice cells off new) ((v.cells.zipIdx.foldl (fun cs (p : Value × Nat) => cs.setIfInBounds (off + p.2) p.1) vals)).toList := by
          rw [← Array.foldl_toList, Array.toList_zipIdx, hfold]
          exact All2.splice off hc hn
        obtain ⟨outv, ho, hR⟩ := fillA_ok hp' hall h
        refine ⟨outv, ?_, hR⟩
        unfold Instr.fill
        simp only [hpl]
        rw [if_neg (by simp [hsz]; rw [← Array.length_toList, ← hl]; omega)]
        exact ho
  | [], _ :: _, _, _, _, hp, _, _ => hp.elim
  | _ :: _, [], _, _, _, hp, _, _ => hp.elim
end Go.Vx
