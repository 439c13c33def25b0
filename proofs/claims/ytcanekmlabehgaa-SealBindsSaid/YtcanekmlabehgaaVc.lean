/- Operations that leave what is abstract of the memory alone: what they yield. -/
import Derived.Test.YtcanekmlabehgaaVb
import Derived.Deep.Quiet
import Derived.Laws.Tables
import Derived.Laws.Cells
import Derived.Laws.Entries
namespace Go.Vx
open Go.RowKit Go.Proofs.YtcanekmlabehgaaW.PrintWords
set_option linter.unusedVariables false
set_option linter.unusedSimpArgs false

/-- A parting of ways. -/
def oif {R : Type} (c : Prop) [Decidable c] (a b : Option R) : Option R := if c then a else b
/-- What a call yields, and what goes on with it. -/
def obd {A R : Type} (m : Option A) (f : A → Option R) : Option R := m.bind f
/-! ### values out of kinds, and back -/
def inj : (k : K) → k.T → List AV
  | .int k, x => [.val (.int k x)]
  | .bool, x => [.val (.bool x)]
  | .str, x => [.val (.string x)]
  | .slice e, xs => [.sh e xs]
  | .pair a b, x => inj a x.1 ++ inj b x.2
  | .unit, _ => []
theorem inj_len : ∀ (k : K) (x : k.T), (inj k x).length = k.sz
  | .int _, _ => rfl
  | .bool, _ => rfl
  | .str, _ => rfl
  | .slice _, _ => rfl
  | .pair a b, x => by show (inj a x.1 ++ inj b x.2).length = a.sz + b.sz; rw [List.length_append, inj_len a, inj_len b]
  | .unit, _ => rfl
theorem inj_rd {E : Env} {w : World} : ∀ {k : K} {x : k.T} {cs : List Value}, Rd w E.F k x cs → All2 (VB E w) (inj k x) cs
  | .int _, _, _, h => by rw [show _ = _ from h]; exact ⟨rfl, trivial⟩
  | .bool, _, _, h => by rw [show _ = _ from h]; exact ⟨rfl, trivial⟩
  | .str, _, _, h => by rw [show _ = _ from h]; exact ⟨rfl, trivial⟩
  | .slice e, xs, _, h => by
    have h' := h
    obtain ⟨A, c, rfl, _⟩ := h'
    exact ⟨h, trivial⟩
  | .pair a b, x, _, h => by
    obtain ⟨c0, c1, rfl, h0, h1⟩ := h
    exact (inj_rd h0).append (inj_rd h1)
  | .unit, _, _, h => by rw [show _ = _ from h]; trivial
def avInt (k : IntKind) : AV → Option Int
  | .val (.int l x) => if k = l then some x else none
  | _ => none
def avBool : AV → Option Bool
  | .val (.bool b) => some b
  | _ => none
def avStr : AV → Option ByteArray
  | .val (.string b) => some b
  | _ => none
/-- The list that a slice reads as; a row of the call's own counts where it is not written any more. -/
def avSl (s : St) (any : Bool) (e : K) : AV → Option (List e.T)
  | .sh k xs => K.cast (.slice k) (.slice e) xs
  | .val (.slice none 0 0) => some ([] : List e.T)
  | .own t => match find t s.ents with
    | some (.row r) => bif r.fz || any then K.cast (.slice r.k) (.slice e) r.xs else none
    | _ => none
  | _ => none
def one1 {α : Type} (f : AV → Option α) : List AV → Option α
  | [c] => f c
  | _ => none
/-- What cells say, as a datum of a kind. -/
def prj (s : St) (any : Bool) : (k : K) → List AV → Option k.T
  | .int k, cs => one1 (avInt k) cs
  | .bool, cs => one1 avBool cs
  | .str, cs => one1 avStr cs
  | .slice e, cs => one1 (avSl s any e) cs
  | .pair a b, cs => match prj s any a (cs.take a.sz), prj s any b (cs.drop a.sz) with
    | some x, some y => some (x, y)
    | _, _ => none
  | .unit, [] => some ()
  | .unit, _ :: _ => none
theorem one1_eq {α : Type} {f : AV → Option α} {cs : List AV} {x : α} (h : one1 f cs = some x) : ∃ c, cs = [c] ∧ f c = some x := by
  match cs, h with
  | [c], h => exact ⟨c, rfl, h⟩
theorem own_rd {W0 : Base} {F : Nat → Prop} {w : World} {r : Row} {v : Value} (h : ∃ cells, w.ownsRow W0.W.heap.size r.T r.k.sz v (List.length r.xs) cells ∧ Reps (Rd w F r.k) r.k.sz r.xs cells) (hF : ∀ b, blk v = some b → F b) : Rd w F (.slice r.k) r.xs [v] := by
  obtain ⟨cells, ho, hr⟩ := h
  obtain ⟨A, c, rfl, hR⟩ := own_reads_row ho hr rfl
  refine ⟨A, c, rfl, own_le ho, hR, fun hn ad ha => hF _ (by rw [ha]; rfl)⟩
theorem cast_rd {w : World} {F : Nat → Prop} {a b : K} {x : a.T} {y : b.T} {cs : List Value} (h : K.cast a b x = some y) (hr : Rd w F a x cs) : Rd w F b y cs := by
  obtain ⟨rfl, rfl⟩ := K.cast_eq h
  exact hr
theorem VA.slice1 {W0 : Base} {E : Env} {s : St} {w : World} (hs : SimS W0 E s w) {F : Nat → Prop} (hF : ∀ b, E.F b → F b) {any : Bool} (ha : any = true → ∀ b, b < w.heap.size → F b) {e : K} {c : AV} {u : Value} {xs : List e.T} (h : avSl s any e c = some xs) (hv : VB E w c u) : Rd w F (.slice e) xs [u] := by
  match c, h, hv with
  | .sh k ys, h, hv => exact cast_rd h (Rd.step (k := .slice k) (fun _ _ => rfl) hF hv)
  | .val (.slice none 0 0), h, hv =>
    obtain rfl := Option.some.inj h
    rw [show u = _ from hv]
    exact ⟨none, 0, rfl, Nat.le_refl _, ⟨rfl, by simp, fun h0 => absurd h0 (by simp)⟩, fun h0 => absurd h0 (by simp)⟩
  | .own t, h, hv =>
    have h' : (match find t s.ents with
      | some (.row r) => bif r.fz || any then K.cast (.slice r.k) (.slice e) r.xs else none
      | _ => none) = some xs := h
    cases he : find t s.ents with
    | none => rw [he] at h'; cases h'
    | some en =>
      cases en with
      | box T cells => rw [he] at h'; cases h'
      | row r =>
        rw [he] at h'
        simp only [] at h'
        obtain ⟨hu, rfl⟩ := hv
        obtain ⟨_, hok⟩ := hs.ents _ _ he
        have hr : ∃ cells, w.ownsRow W0.W.heap.size r.T r.k.sz (E.vs t) (List.length r.xs) cells ∧ Reps (Rd w F r.k) r.k.sz r.xs cells := by
          obtain ⟨cells, ho, hr⟩ := hok.1
          exact ⟨cells, ho, hr.imp_ fun _ _ q => Rd.step (fun _ _ => rfl) hF q⟩
        cases hf : r.fz || any with
        | false => rw [hf] at h'; cases h'
        | true =>
          rw [hf] at h'
          refine cast_rd h' (own_rd hr fun b hb => ?_)
          rcases Bool.or_eq_true_iff.1 hf with q | q
          · exact hF _ ((hok.2 b hb).2 q)
          · exact ha q b (EntOK.blk_lt (e := .row r) hok hb).2
theorem All2.one {β : Type} {R : AV → β → Prop} {c : AV} {m : List β} (h : All2 R [c] m) : ∃ u, m = [u] ∧ R c u := by
  match m, h with
  | [u], h => exact ⟨u, rfl, h.1⟩
theorem prj_rd {W0 : Base} {E : Env} {s : St} {w : World} (hs : SimS W0 E s w) {F : Nat → Prop} (hF : ∀ b, E.F b → F b) {any : Bool} (ha : any = true → ∀ b, b < w.heap.size → F b) : ∀ {k : K} {cells : List AV} {x : k.T} {vals : List Value}, prj s any k cells = some x → All2 (VB E w) cells vals → Rd w F k x vals
  | .int k, cells, x, vals, h, hc => by
    obtain ⟨c, rfl, hx⟩ := one1_eq h
    obtain ⟨u, rfl, hu⟩ := hc.one
    unfold avInt at hx
    split at hx
    · split at hx
      · rename_i e
        subst e
        obtain rfl := Option.some.inj hx
        rw [show u = _ from hu]; rfl
      · cases hx
    · cases hx
  | .bool, cells, x, vals, h, hc => by
    obtain ⟨c, rfl, hx⟩ := one1_eq h
    obtain ⟨u, rfl, hu⟩ := hc.one
    unfold avBool at hx
    split at hx
    · obtain rfl := Option.some.inj hx
      rw [show u = _ from hu]; rfl
    · cases hx
  | .str, cells, x, vals, h, hc => by
    obtain ⟨c, rfl, hx⟩ := one1_eq h
    obtain ⟨u, rfl, hu⟩ := hc.one
    unfold avStr at hx
    split at hx
    · obtain rfl := Option.some.inj hx
      rw [show u = _ from hu]; rfl
    · cases hx
  | .slice e, cells, x, vals, h, hc => by
    obtain ⟨c, rfl, hx⟩ := one1_eq h
    obtain ⟨u, rfl, hu⟩ := hc.one
    exact VA.slice1 hs hF ha hx hu
  | .pair a b, cells, x, vals, h, hc => by
    simp only [prj] at h
    split at h
    · rename_i x0 y0 h0 h1
      obtain rfl := Option.some.inj h
      exact ⟨vals.take a.sz, vals.drop a.sz, (List.take_append_drop _ _).symm, prj_rd hs hF ha h0 (hc.take _), prj_rd hs hF ha h1 (hc.drop _)⟩
    · cases h
  | .unit, [], x, vals, h, hc => by
    match vals, hc with
    | [], _ => rfl
  | .unit, _ :: _, x, vals, h, hc => by cases h

/-! ### operands -/
def evl (s : St) : Operand → AV
  | .tmp t => nth s.tmps t
  | .const v => .val v
  | .func f => .fn f []
  | .global _ => .dead
theorem Sim.ev {W0 : Base} {E : Env} {s : St} {a : Act} {w : World} (h : Sim W0 E s a w) (x : Operand) : VR E w (evl s x) (a.eval x) := by
  cases x with
  | tmp t => exact h.slots t
  | const v => rfl
  | func f => exact ⟨[], rfl, trivial⟩
  | global g => trivial
def opnd (s : St) (x : Operand) : Value :=
  match evl s x with
  | .val v => v
  | _ => undef
def isVal (s : St) (x : Operand) : Bool :=
  match evl s x with
  | .val _ => true
  | _ => false
theorem Sim.opnd {W0 : Base} {E : Env} {s : St} {a : Act} {w : World} (h : Sim W0 E s a w) {x : Operand} (hx : isVal s x = true) : a.eval x = Vx.opnd s x := by
  have := h.ev x
  unfold isVal at hx
  unfold Vx.opnd
  split at hx
  · rename_i v e
    rw [e] at this
    exact this
  · cases hx
def calm (P : Program) {α : Type} : Sem α → Option α
  | .pure a => some a
  | .program k => calm P (k P)
  | .mark _ k => calm P k
  | _ => none
theorem calm_run {P : Program} {α : Type} : ∀ {c : Sem α} {a : α} (w : World), calm P c = some a → c.run P w = .ok a w
  | .pure _, _, w, h => by rw [Option.some.inj h]; rfl
  | .program k, _, w, h => calm_run (c := k P) w h
  | .mark _ k, _, w, h => calm_run (c := k) w h
  | .load .., _, _, h => by cases h
  | .store .., _, _, h => by cases h
  | .new .., _, _, h => by cases h
  | .shape .., _, _, h => by cases h
  | .freeze .., _, _, h => by cases h
  | .frozen .., _, _, h => by cases h
  | .getObj .., _, _, h => by cases h
  | .setObj .., _, _, h => by cases h
  | .choose .., _, _, h => by cases h
  | .sys .., _, _, h => by cases h
  | .halt .., _, _, h => by cases h
/-- What an operation yields, whatever the world, as long as what there was stays. -/
def QTo (P : Program) (o : Oper) (s : St) (av : AV) : Prop :=
  ∀ (W0 : Base) (E : Env) (a : Act) (w : World), Sim W0 E s a w → ∃ v, VR E w av v ∧ ∀ w', Below w.heap.size w w' → o.quietAt P a (Below w.heap.size w) w' v
theorem QTo.pure {P : Program} {o : Oper} {s : St} {av : AV} (h : ∀ (W0 : Base) (E : Env) (a : Act) (w : World), Sim W0 E s a w → ∃ v, VR E w av v ∧ ∀ w', Below w.heap.size w w' → (execOp a.eval o).run P w' = .ok (.value v) w') : QTo P o s av := by
  intro W0 E a w hs
  obtain ⟨v, hv, hr⟩ := h W0 E a w hs
  refine ⟨v, hv, fun w' hb => ?_⟩
  unfold Oper.quietAt
  rw [hr w' hb]
  exact ⟨rfl, rfl⟩
theorem QTo.calm {P : Program} {o : Oper} {s : St} {v : Value} (hsel : ∀ cs b, o.op ≠ .select cs b) (hv : o.op.operands.toList.all (isVal s) = true) (h : calm P (execOp (opnd s) o) = some (.value v)) : QTo P o s (.val v) :=
  QTo.pure fun W0 E a w hs => ⟨v, rfl, fun w' _ => by
    rw [execOp_congr (ρ := a.eval) (ρ' := opnd s) o hsel (fun x hx => hs.opnd (List.all_eq_true.1 hv x (Array.mem_toList_iff.2 hx)))]
    exact calm_run w' h⟩
theorem add_off (b o j : Nat) : (⟨b, o, none⟩ : Addr).add j = ⟨b, o + j, none⟩ := by unfold Addr.add; split <;> simp_all
def aggD : TypeDesc → Bool
  | .struct _ => true
  | .array _ _ => true
  | _ => false
theorem run_isAgg {P : Program} {T : TypeId} {d : TypeDesc} (hd : P.underlying T = some d) (w : World) : (isAgg T).run P w = .ok (aggD d) w := by
  unfold isAgg
  rw [Sem.run_bind, run_underlying hd w]
  cases d <;> rfl
theorem run_loadVar_agg {P : Program} {T : TypeId} {d : TypeDesc} {i : TypeInfo} {ad : Addr} {w : World} (hd : P.underlying T = some d) (ha : aggD d = true) (hi : P.info? T = some i) (vals : List Value) (hs : i.size = vals.length) (hc : ∀ (j : Nat) (v : Value), vals[j]? = some v → w.cell? (ad.add j) = some v) : (loadVar T ad).run P w = .ok (.agg vals.toArray) w := by
  have hl := run_loadCells_list (P := P) w ad vals hc
  simp [loadVar, Sem.run_bind, run_isAgg hd, ha, sizeOf, typeInfo, hi, hs, hl]
theorem run_loadVar_one {P : Program} {T : TypeId} {d : TypeDesc} {ad : Addr} {w : World} {v : Value} (hd : P.underlying T = some d) (ha : aggD d = false) (hc : w.cell? ad = some v) : (loadVar T ad).run P w = .ok v w := by
  simp [loadVar, Sem.run_bind, run_isAgg hd, ha, load, Sem.run, hc]
/-- The cells of a variable of type T, as one value. -/
def take1 (P : Program) (T : TypeId) (cells : List AV) : Option AV :=
  match P.underlying T, P.info? T with
  | some d, some i => bif aggD d then (bif Nat.ble i.size cells.length then some (.agg (cells.take i.size)) else none) else (match cells with | c :: _ => some c | [] => none)
  | _, _ => none
theorem take1_run {P : Program} {T : TypeId} {cells : List AV} {av : AV} {E : Env} {w w' : World} {ad : Addr} {vals : List Value} (h : take1 P T cells = some av) (hv : All2 (VB E w) cells vals) :
    ∃ v, VR E w av v ∧ ∀ w', (∀ (j : Nat) (v : Value), vals[j]? = some v → w'.cell? (ad.add j) = some v) → (loadVar T ad).run P w' = .ok v w' := by
  unfold take1 at h
  split at h
  · rename_i d i hd hi
    cases ha : aggD d with
    | true =>
      rw [ha] at h
      simp only [cond_true] at h
      cases hl : Nat.ble i.size cells.length with
      | false => rw [hl] at h; cases h
      | true =>
        rw [hl] at h
        obtain rfl := Option.some.inj h
        have hle : i.size ≤ cells.length := Nat.le_of_ble_eq_true hl
        have hvl := hv.length
        refine ⟨.agg (vals.take i.size).toArray, ⟨_, rfl, hv.take _⟩, fun w' hc => run_loadVar_agg hd ha hi _ (by simp; omega) (fun j v hj => hc j v ?_)⟩
        rw [List.getElem?_take] at hj
        split at hj
        · exact hj
        · cases hj
    | false =>
      rw [ha] at h
      simp only [cond_false] at h
      split at h
      · rename_i c l
        obtain rfl := Option.some.inj h
        match vals, hv with
        | u :: m, hv =>
          refine ⟨u, hv.1.r, fun w' hc => run_loadVar_one hd ha ?_⟩
          have := hc 0 u rfl
          unfold Addr.add at this
          simpa using this
      · cases h
  · cases h
end Go.Vx
