/- Operations that turn the abstract memory: variables, rows, what is appended and stored. -/
import Derived.Test.YtcanekmlabehgaaVh
import Derived.Laws.CopyRow
import Derived.Laws.MakeOwn
import Derived.Maps.AppendAt
namespace Go.Vx
open Go.RowKit Go.Proofs.YtcanekmlabehgaaW.PrintWords
set_option linter.unusedVariables false
set_option linter.unusedSimpArgs false
section
variable {R : Type}
/-- What an operation leads to. -/
def OTo (P : Program) (o : Oper) (s s' : St) : Prop :=
  ∀ (W0 : Base) (E : Env) (a : Act) (w : World), Sim W0 E s a w → ∀ (K : Act → World → Prop) (Q : Exit → Act → World → Prop), (∀ (E' : Env) (a' : Act) (w' : World), Sim W0 E' s' a' w' → K a' w') → o.wp P a w K Q
def OOk (P : Program) (o : Oper) (s : St) (k : St → Option R) (r : R) : Prop := ∃ s', k s' = some r ∧ OTo P o s s'
theorem QTo.o {P : Program} {o : Oper} {s : St} {av : AV} (h : QTo P o s av) : OTo P o s (s.put o.dst av) := by
  intro W0 E a w hs K Q hK
  obtain ⟨v, hv, hq⟩ := h W0 E a w hs
  have h1 := hq w (Below.refl _ _)
  unfold Oper.quietAt at h1
  unfold Oper.wp
  generalize (execOp a.eval o).run P w = r at *
  cases r with
  | ok n w' =>
    cases n <;> simp only [Oper.quietUpon] at h1 <;> simp only [Oper.upon]
    case value u =>
      obtain ⟨rfl, rfl⟩ := h1
      exact hK E _ _ (hs.put o.dst hv)
    case skip =>
      obtain ⟨rfl, rfl⟩ := h1
      exact hK E _ _ (hs.put o.dst hv)
    case enter f args =>
      obtain ⟨rfl, hc⟩ := h1
      refine hc.mono ?_
      rintro e w2 ⟨rfl, hb⟩
      exact hK E _ _ ((hs.below' hb).put o.dst (hv.step ⟨fun _ _ => rfl, fun _ q => q, fun _ q => q, fun b q => hb.block b (hs.fz b q)⟩))
  | halt x w' => simp only [Oper.quietUpon] at h1
/-- An operation that yields a value and leaves a world. -/
theorem OTo.of {P : Program} {o : Oper} {s s' : St} (h : ∀ (W0 : Base) (E : Env) (a : Act) (w : World), Sim W0 E s a w → ∃ v w' E', (execOp a.eval o).run P w = .ok (.value v) w' ∧ Sim W0 E' s' (a.put o.dst v) w') : OTo P o s s' := by
  intro W0 E a w hs K Q hK
  obtain ⟨v, w', E', hr, hs'⟩ := h W0 E a w hs
  unfold Oper.wp
  rw [hr]
  exact hK _ _ _ hs'
theorem OTo.skip {P : Program} {o : Oper} {s s' : St} (h : ∀ (W0 : Base) (E : Env) (a : Act) (w : World), Sim W0 E s a w → ∃ w' E', (execOp a.eval o).run P w = .ok .skip w' ∧ Sim W0 E' s' (a.put o.dst undef) w') : OTo P o s s' := by
  intro W0 E a w hs K Q hK
  obtain ⟨w', E', hr, hs'⟩ := h W0 E a w hs
  unfold Oper.wp
  rw [hr]
  exact hK _ _ _ hs'
theorem run_newObj' {P : Program} (o : Obj) (w : World) : (Sem.new o .pure).run P w = .ok w.heap.size (w.alloc o) := rfl
theorem below_alloc1 (w : World) (o : Obj) : Below w.heap.size w (w.alloc o) := below_alloc (Below.refl _ _) o
theorem alloc_size (w : World) (o : Obj) : (w.alloc o).heap.size = w.heap.size + 1 := by
  show (w.heap.push o).size = _
  simp
/-- A new variable. -/
theorem Sim.box {W0 : Base} {E : Env} {s : St} {a : Act} {w : World} (h : Sim W0 E s a w) (T : TypeId) {cells : List AV} {vals : Array Value} (hc : All2 (VB E w) cells vals.toList) (d : Option Tmp) :
    Sim W0 (E.add s.nx (.pointer (some ⟨w.heap.size, 0, none⟩)) E.F) ((s.add (.box T cells)).put d (.ptr s.nx 0)) (a.put d (.pointer (some ⟨w.heap.size, 0, none⟩))) (w.alloc (.cells vals T)) := by
  have hn : ¬ E.U s.nx := fun q => Nat.lt_irrefl _ (h.used _ q)
  have hb := below_alloc1 w (.cells vals T)
  refine Sim.put (h.fresh hb (fun _ q => q) (fun b q => ⟨?_, .inl q⟩) ?_ ?_) d ?_
  · have := h.fz b q; rw [alloc_size]; omega
  · refine ⟨w.heap.size, vals, rfl, h.below.size, fun q => ?_, heap_alloc_new w _, hc.imp fun _ _ q => VB.step (Stp.add hn (fun _ q => q) (fun b q => hb.block b (h.fz b q))) q⟩
    exact Nat.lt_irrefl _ (h.fz _ q)
  · intro b hb
    obtain rfl : w.heap.size = b := by simpa [blk] using hb
    exact Nat.le_refl _
  · exact ⟨.inr rfl, w.heap.size, by simp [Env.add], rfl⟩
def oBox (o : Oper) (s : St) (T : TypeId) (x : Operand) (k : St → Option R) : Option R :=
  match cellsA s (evl s x) with
  | some cs => k ((s.add (.box T cs)).put o.dst (.ptr s.nx 0))
  | none => none
theorem oBox_ok {P : Program} {o : Oper} {s : St} {T : TypeId} {x : Operand} {k : St → Option R} {r : R} (ho : o.op = .box T x) (h : oBox o s T x k = some r) : OOk P o s k r := by
  unfold oBox at h
  split at h
  · rename_i cs hcs
    refine ⟨_, h, OTo.of fun W0 E a w hs => ⟨_, _, _, ?_, hs.box T (vals := (a.eval x).cells) (cellsA_ok hs.toSimS hcs (hs.ev x)) o.dst⟩⟩
    simp only [execOp, ho, Instr.box, newVar, newRow, newObj, Sem.run_bind, Sem.run_pure, Result.andThen_ok, run_newObj']
  · cases h
def oAlloc (P : Program) (o : Oper) (s : St) (T : TypeId) (k : St → Option R) : Option R :=
  match P.info? T with
  | some i => match i.zero with
    | some z => k ((s.add (.box T (z.cells.toList.map .val))).put o.dst (.ptr s.nx 0))
    | none => none
  | none => none
theorem vals_all2 {E : Env} {w : World} (vs : Array Value) : All2 (VB E w) (vs.toList.map AV.val) vs.toList := by
  have := All2.map (R := VB E w) (fun v : Value => AV.val v) id (fun _ => rfl) vs.toList
  simpa using this
theorem oAlloc_ok {P : Program} {o : Oper} {s : St} {T : TypeId} {k : St → Option R} {r : R} (ho : o.op = .alloc T) (h : oAlloc P o s T k = some r) : OOk P o s k r := by
  unfold oAlloc at h
  split at h
  · rename_i i hi
    split at h
    · rename_i z hz
      refine ⟨_, h, OTo.of fun W0 E a w hs => ⟨_, _, _, ?_, hs.box T (vals := z.cells) (vals_all2 _) o.dst⟩⟩
      simp [execOp, ho, Instr.alloc, zeroValue, typeInfo, hi, hz, newVar, newRow, newObj, run_newObj']
    · cases h
  · cases h

/-! ### a thing in memory that turns in its own block -/
theorem setRow_size (w : World) (g : Nat) (cs : Array Value) : (w.setRow g cs).heap.size = w.heap.size := by simp [World.setRow]
theorem setRow_other (w : World) (g : Nat) (cs : Array Value) (b : Nat) (h : b ≠ g) : (w.setRow g cs).heap[b]? = w.heap[b]? := by
  simp [World.setRow, Array.getElem?_modify, Ne.symm h]
theorem below_setRow {B : Nat} (w : World) (g : Nat) (cs : Array Value) (h : B ≤ g) : Below B w (w.setRow g cs) :=
  ⟨rfl, rfl, rfl, by rw [setRow_size]; exact Nat.le_refl _, fun k hk => setRow_other w g cs k (by omega)⟩
/-- One thing's block is written. -/
theorem Sim.write {W0 : Base} {E : Env} {s : St} {a : Act} {w : World} (h : Sim W0 E s a w) {t : Nat} {e e' : Ent} {g : Nat} {cs : Array Value} (he : find t s.ents = some e) (hg : blk (E.vs t) = some g) (hF : ¬ E.F g)
    (hok : EntOK W0 E (w.setRow g cs) (E.vs t) e') : Sim W0 E ⟨s.tmps, upd t e' s.ents, s.nx⟩ a (w.setRow g cs) := by
  obtain ⟨hu, hk⟩ := h.ents t e he
  have hB := (hk.blk_lt hg).1
  have hm : ∀ b, b ≠ g → (w.setRow g cs).heap[b]? = w.heap[b]? := fun b hb => setRow_other w g cs b hb
  have st : Stp E w E (w.setRow g cs) := ⟨fun _ _ => rfl, fun _ q => q, fun _ q => q, fun b q => hm b (fun e => hF (e ▸ q))⟩
  refine h.turn st ?_ rfl
  refine h.toSimS.turn st (h.below.trans (below_setRow w g cs hB)) (fun b q => by rw [setRow_size]; exact h.fz b q) h.old h.used ?_ ?_
  · intro t' d ht
    simp only at ht
    rw [find_upd] at ht
    by_cases q : t' = t
    · rw [if_pos q] at ht
      obtain rfl := Option.some.inj ht
      exact .inr ⟨by rw [q]; exact hu, by rw [q]; exact hok⟩
    · rw [if_neg q] at ht
      refine .inl ⟨ht, fun b hb => ⟨hm b (fun e => ?_), fun q => q⟩⟩
      subst e
      exact h.apart t' t d _ b q ht he hb hg
  · intro t1 t2 e1 e2 b hne h1 h2 hb1 hb2
    simp only at h1 h2
    rw [find_upd] at h1 h2
    have f1 : ∃ d, find t1 s.ents = some d := by
      by_cases q : t1 = t
      · exact ⟨e, by rw [q]; exact he⟩
      · rw [if_neg q] at h1; exact ⟨_, h1⟩
    have f2 : ∃ d, find t2 s.ents = some d := by
      by_cases q : t2 = t
      · exact ⟨e, by rw [q]; exact he⟩
      · rw [if_neg q] at h2; exact ⟨_, h2⟩
    obtain ⟨d1, f1⟩ := f1
    obtain ⟨d2, f2⟩ := f2
    exact h.apart t1 t2 d1 d2 b hne f1 f2 hb1 hb2
theorem VB.one {E : Env} {w : World} {av : AV} {v : Value} (h : VB E w av v) (hd : av ≠ .dead) (hv : ∀ u, av = .val u → u.oneCell' = true) (ho : ∀ t, av = .own t → (E.vs t).oneCell' = true) : v.oneCell' = true := by
  match av, h with
  | .val u, h => rw [show v = u from h]; exact hv u rfl
  | .own t, h => rw [h.2]; exact ho t rfl
  | .sh k xs, h => obtain ⟨A, c, e, _⟩ := h; obtain rfl : v = _ := by injection e
                   rfl
  | .ptr t o, h => obtain ⟨_, b, _, rfl⟩ := h; rfl
  | .epo t i z o, h => obtain ⟨_, g, n, c, _, _, rfl⟩ := h; rfl
  | .fn f cs, h => obtain ⟨vals, rfl, _⟩ := h; rfl
  | .dead, h => exact absurd rfl hd
/-- Cells that may be stored. -/
def storable (s : St) : AV → Bool
  | .val (.agg _) => false
  | .val (.tuple _) => false
  | .val _ => true
  | .own t => (find t s.ents).isSome
  | .dead => false
  | .agg _ => false
  | .tup _ => false
  | .cp _ => false
  | _ => true
theorem storable_ok {W0 : Base} {E : Env} {s : St} {w : World} (hs : SimS W0 E s w) {av : AV} {v : Value} (h : storable s av = true) (hv : VB E w av v) : v.oneCell' = true := by
  match av, h, hv with
  | .val u, h, hv =>
    rw [show v = u from hv]
    cases u <;> first | rfl | cases h
  | .own t, h, hv =>
    obtain ⟨e, he⟩ := Option.isSome_iff_exists.1 h
    obtain ⟨_, hok⟩ := hs.ents _ _ he
    rw [hv.2]
    cases e with
    | row r => obtain ⟨⟨_, ho, _⟩, _⟩ := hok; rcases ho.2 with ⟨q, _⟩ | ⟨_, _, _, q, _⟩ <;> rw [q] <;> rfl
    | box T cells => obtain ⟨b, vals, q, _⟩ := hok; rw [q]; rfl
  | .sh k xs, h, hv =>
    obtain ⟨A, c, e, _⟩ := hv
    obtain rfl : v = _ := by injection e
    rfl
  | .ptr t o, h, hv => obtain ⟨_, b, _, rfl⟩ := hv; rfl
  | .epo t i z o, h, hv => obtain ⟨_, g, n, c, _, _, rfl⟩ := hv; rfl
  | .fn f cs, h, hv => obtain ⟨vals, rfl, _⟩ := hv; rfl
theorem storables_ok {W0 : Base} {E : Env} {s : St} {w : World} (hs : SimS W0 E s w) : ∀ {cs : List AV} {vs : List Value}, cs.all (storable s) = true → All2 (VB E w) cs vs → ∀ v ∈ vs, v.oneCell' = true
  | [], [], _, _, v, hv => by cases hv
  | c :: cs, u :: vs, h, hv, v, hm => by
    simp only [List.all_cons, Bool.and_eq_true] at h
    rcases List.mem_cons.1 hm with rfl | hm
    · exact storable_ok hs h.1 hv.1
    · exact storables_ok hs h.2 hv.2 v hm
theorem splice_get {α : Type} (cells : List α) (o : Nat) (vs : List α) (h : o + vs.length ≤ cells.length) (p : Nat) : (splice cells o vs)[p]? = if p < o then cells[p]? else if p < o + vs.length then vs[p - o]? else cells[p]? := by
  unfold splice
  by_cases h1 : p < o
  · rw [if_pos h1, List.append_assoc, List.getElem?_append_left (by simp; omega), List.getElem?_take, if_pos h1]
  · rw [if_neg h1]
    by_cases h2 : p < o + vs.length
    · rw [if_pos h2, List.getElem?_append_left (by simp; omega), List.getElem?_append_right (by simp; omega)]
      congr 1
      simp; omega
    · rw [if_neg h2, List.getElem?_append_right (by simp; omega), List.getElem?_drop]
      congr 1
      simp; omega
theorem seg_get {α : Type} (cells : List α) (i sz p : Nat) : ((cells.drop (i * sz)).take sz)[p]? = if p < sz then cells[i * sz + p]? else none := by
  rw [List.getElem?_take]
  split
  · rw [List.getElem?_drop]
  · rfl
theorem seg_same {α : Type} {cells vs : List α} {j sz off : Nat} (h1 : off + vs.length ≤ sz) (h2 : j * sz + sz ≤ cells.length) : ((splice cells (j * sz + off) vs).drop (j * sz)).take sz = splice ((cells.drop (j * sz)).take sz) off vs := by
  apply List.ext_getElem?
  intro p
  rw [seg_get, splice_get _ _ _ (by omega), splice_get _ _ _ (by simp; omega), seg_get]
  by_cases hp : p < sz
  · rw [if_pos hp, if_pos hp]
    by_cases q1 : p < off
    · rw [if_pos (by omega), if_pos q1]
    · rw [if_neg (by omega), if_neg q1]
      by_cases q2 : p < off + vs.length
      · rw [if_pos (by omega), if_pos q2]
        congr 1
        omega
      · rw [if_neg (by omega), if_neg q2]
  · rw [if_neg hp, if_neg hp, if_neg (by omega), if_neg (by omega)]
theorem seg_ne {α : Type} {cells vs : List α} {i j sz off : Nat} (h1 : off + vs.length ≤ sz) (h2 : j * sz + sz ≤ cells.length) (hne : i ≠ j) : ((splice cells (j * sz + off) vs).drop (i * sz)).take sz = (cells.drop (i * sz)).take sz := by
  apply List.ext_getElem?
  intro p
  rw [seg_get, seg_get, splice_get _ _ _ (by omega)]
  by_cases hp : p < sz
  · rw [if_pos hp, if_pos hp]
    rcases Nat.lt_or_gt_of_ne hne with q | q
    · have : (i + 1) * sz ≤ j * sz := Nat.mul_le_mul_right _ q
      rw [Nat.add_mul, Nat.one_mul] at this
      rw [if_pos (by omega)]
    · have : (j + 1) * sz ≤ i * sz := Nat.mul_le_mul_right _ q
      rw [Nat.add_mul, Nat.one_mul] at this
      rw [if_neg (by omega), if_neg (by omega)]
  · rw [if_neg hp, if_neg hp]
theorem reps_set {k : K} {w : World} {F : Nat → Prop} {xs : List k.T} {cells vs : List Value} {j off : Nat} {y : k.T} (h : Reps (Rd w F k) k.sz xs cells) (hj : j < List.length xs) (h1 : off + vs.length ≤ k.sz) (hy : Rd w F k y (splice ((cells.drop (j * k.sz)).take k.sz) off vs)) :
    Reps (Rd w F k) k.sz (List.set xs j y) (splice cells (j * k.sz + off) vs) := by
  have h2 : j * k.sz + k.sz ≤ cells.length := by rw [h.1, ← Nat.succ_mul]; exact Nat.mul_le_mul_right _ hj
  refine ⟨by rw [splice_len (by omega), h.1, List.length_set], fun i p hi => ?_⟩
  rw [List.getElem?_set] at hi
  by_cases q : j = i
  · subst q
    rw [if_pos rfl, if_pos hj] at hi
    obtain rfl := Option.some.inj hi
    rw [seg_same h1 h2]
    exact hy
  · rw [if_neg q] at hi
    rw [seg_ne h1 h2 (Ne.symm q)]
    exact h.2 i p hi
theorem own_splice {w : World} {base : Nat} {T : TypeId} {size n : Nat} {v : Value} {cells vs : List Value} {g o : Nat} (h : w.ownsRow base T size v n cells) (hb : blk v = some g) (ho : o + vs.length ≤ n * size) :
    ∃ cur : Array Value, w.heap[g]? = some (.cells cur T (0, 0)) ∧ o + vs.length ≤ cur.size ∧ (w.setRow g (cur.toList.take o ++ vs ++ cur.toList.drop (o + vs.length)).toArray).ownsRow base T size v n (splice cells o vs) := by
  rcases h.2 with ⟨rfl, _⟩ | ⟨g', cap, cur, rfl, hg, hh, hc, hm, hs, ht⟩
  · cases hb
  · obtain rfl : g' = g := by simpa [blk] using hb
    have hle : n * size ≤ cap * size := Nat.mul_le_mul_right _ hc
    have hcl : cur.toList.length = cur.size := by simp
    refine ⟨cur, hh, by omega, by rw [splice_len (by rw [h.1]; exact ho), h.1], .inr ⟨g', cap, _, rfl, hg, setRow_heap w g' cur _ T _ hh, hc, hm, ?_, ?_⟩⟩
    · show (splice cur.toList o vs).toArray.size = _
      rw [List.size_toArray, splice_len (by omega), hcl, hs]
    · show (splice cur.toList o vs).toArray.toList.take (n * size) = _
      rw [← ht]
      apply List.ext_getElem?
      intro p
      simp only []
      rw [List.getElem?_take, splice_get _ _ _ (by omega), splice_get _ _ _ (by simp; omega), List.getElem?_take]
      by_cases q : p < n * size
      · rw [if_pos q, if_pos q]
      · rw [if_neg q, if_neg q, if_neg (by omega), if_neg (by omega)]
theorem run_storeAt {P : Program} {T : TypeId} {i : TypeInfo} {g o : Nat} {t : TypeId} {cur : Array Value} {w : World} {v : Value} (hi : P.info? T = some i) (hs : v.cells.size = i.size) (hg : w.heap[g]? = some (.cells cur t (0, 0))) (hl : o + v.cells.toList.length ≤ cur.size) (h1 : ∀ u ∈ v.cells.toList, u.oneCell' = true) :
    (Instr.storeAt T (.pointer (some ⟨g, o, none⟩)) v).run P w = .ok () (w.setRow g (cur.toList.take o ++ v.cells.toList ++ cur.toList.drop (o + v.cells.toList.length)).toArray) := by
  have := run_storeCells_at (P := P) g o t v.cells.toList 0 cur w hg (by simpa using hl) h1
  simp only [Nat.add_zero] at this
  simp [Instr.storeAt, Instr.sureAddr, storeVar, sizeOf, typeInfo, hi, hs, this]
/-- A store into a variable, or into a row's element. -/
def oStore (P : Program) (o : Oper) (s : St) (T : TypeId) (ad x : Operand) (k : St → Option R) : Option R :=
  match P.info? T, cellsA s (evl s x) with
  | some i, some cs => bif Nat.beq cs.length i.size && cs.all (storable s) then (match evl s ad with
    | .ptr t off => match find t s.ents with
      | some (.box T' cells) => bif Nat.ble (off + cs.length) cells.length then k ((⟨s.tmps, upd t (.box T' (splice cells off cs)) s.ents, s.nx⟩ : St).put o.dst .dead) else none
      | _ => none
    | .epo t j sz off => match find t s.ents with
      | some (.row r) => bif Nat.beq sz r.k.sz && !r.fz && Nat.ble (off + cs.length) sz then (match prj s false r.k (splice (inj r.k (List.getD r.xs j r.k.dflt)) off cs) with
        | some y => k ((⟨s.tmps, upd t (.row ⟨r.k, r.T, r.fz, List.set r.xs j y⟩) s.ents, s.nx⟩ : St).put o.dst .dead)
        | none => none) else none
      | _ => none
    | _ => none) else none
  | _, _ => none
theorem oStore_ok {P : Program} {o : Oper} {s : St} {T : TypeId} {ad x : Operand} {k : St → Option R} {r : R} (ho : o.op = .store T ad x) (h : oStore P o s T ad x k = some r) : OOk P o s k r := by
  unfold oStore at h
  split at h
  · rename_i i cs hi hcs
    cases hb : Nat.beq cs.length i.size && cs.all (storable s) with
    | false => rw [hb] at h; cases h
    | true =>
      rw [hb] at h
      simp only [Bool.and_eq_true] at hb
      simp only [cond_true] at h
      have hlen := Nat.eq_of_beq_eq_true hb.1
      split at h
      · rename_i t off hx
        split at h
        · rename_i T' cells he
          cases hle : Nat.ble (off + cs.length) cells.length with
          | false => rw [hle] at h; cases h
          | true =>
            rw [hle] at h
            have hle' := Nat.le_of_ble_eq_true hle
            refine ⟨_, h, OTo.skip fun W0 E a w hs => ?_⟩
            have hv := cellsA_ok hs.toSimS hcs (hs.ev x)
            have h1 := storables_ok hs.toSimS hb.2 hv
            have := hs.ev ad
            rw [hx] at this
            obtain ⟨hu, b, hvs, e⟩ := this
            obtain ⟨_, b', vals, hvs', h0, hF, hg, hc⟩ := hs.ents _ _ he
            rw [hvs] at hvs'
            obtain rfl : b = b' := by injection hvs' with q; injection q with q; injection q
            have hl1 := hv.length
            have hl2 := hc.length
            have hl3 : vals.toList.length = vals.size := by simp
            have hrun := run_storeAt (P := P) (T := T) (o := off) (v := a.eval x) hi (by rw [← Array.length_toList, ← hl1, hlen]) hg (by omega) h1
            refine ⟨w.setRow b (vals.toList.take off ++ (a.eval x).cells.toList ++ vals.toList.drop (off + (a.eval x).cells.toList.length)).toArray, E, ?_, Sim.put (hs.write (g := b) he (by rw [hvs]; rfl) hF ?_) o.dst (av := .dead) trivial⟩
            · simp only [execOp, ho, e, Sem.run_bind, hrun, Result.andThen_ok]; rfl
            · have st : Stp E w E (w.setRow b (vals.toList.take off ++ (a.eval x).cells.toList ++ vals.toList.drop (off + (a.eval x).cells.toList.length)).toArray) :=
                ⟨fun _ _ => rfl, fun _ q => q, fun _ q => q, fun b' q => setRow_other _ _ _ _ (fun e => hF (e ▸ q))⟩
              refine ⟨b, _, hvs, h0, hF, setRow_heap w b vals _ T' _ hg, ?_⟩
              exact (All2.splice off hc hv).imp fun _ _ q => VB.step st q
        · cases h
      · rename_i t j sz off hx
        split at h
        · rename_i rw_ he
          cases hcnd : Nat.beq sz rw_.k.sz && !rw_.fz && Nat.ble (off + cs.length) sz with
          | false => rw [hcnd] at h; cases h
          | true =>
            rw [hcnd] at h
            simp only [Bool.and_eq_true, Bool.not_eq_true'] at hcnd
            obtain ⟨⟨hsz, hfz⟩, hle⟩ := hcnd
            obtain rfl := Nat.eq_of_beq_eq_true hsz
            have hle' := Nat.le_of_ble_eq_true hle
            simp only [cond_true] at h
            split at h
            · rename_i y hy
              refine ⟨_, h, OTo.skip fun W0 E a w hs => ?_⟩
              have hv := cellsA_ok hs.toSimS hcs (hs.ev x)
              have h1 := storables_ok hs.toSimS hb.2 hv
              have := hs.ev ad
              rw [hx] at this
              obtain ⟨hu, g, n, c, hvs, hj, e⟩ := this
              obtain ⟨_, ⟨cells, hown, hreps⟩, hF⟩ := hs.ents _ _ he
              have hbk : blk (E.vs t) = some g := by rw [hvs]; rfl
              have hnF : ¬ E.F g := fun q => by rw [(hF g hbk).1 q] at hfz; cases hfz
              have hn : List.length rw_.xs = n := by
                rcases hown.2 with ⟨q, _⟩ | ⟨_, _, _, q, _⟩
                · rw [hvs] at q; cases q
                · rw [hvs] at q; injection q with _ q _; exact q.symm
              have hjl : j < List.length rw_.xs := by omega
              have hl1 := hv.length
              have hxj : rw_.xs[j]? = some (List.getD rw_.xs j rw_.k.dflt) := by
                rw [List.getD_eq_getElem?_getD, List.getElem?_eq_getElem hjl]; rfl
              have hel := inj_rd (hreps.2 j _ hxj)
              have hR := prj_rd hs.toSimS (F := E.F) (fun _ q => q) (any := false) (fun q => by cases q) hy (All2.splice off hel hv)
              have hbd : j * rw_.k.sz + rw_.k.sz ≤ List.length rw_.xs * rw_.k.sz := by rw [← Nat.succ_mul]; exact Nat.mul_le_mul_right _ hjl
              obtain ⟨cur, hg, hcur, hown'⟩ := own_splice (vs := (a.eval x).cells.toList) (o := j * rw_.k.sz + off) hown hbk (by omega)
              have hrun := run_storeAt (P := P) (T := T) (o := j * rw_.k.sz + off) (v := a.eval x) hi (by rw [← Array.length_toList, ← hl1, hlen]) hg hcur h1
              refine ⟨w.setRow g (cur.toList.take (j * rw_.k.sz + off) ++ (a.eval x).cells.toList ++ cur.toList.drop (j * rw_.k.sz + off + (a.eval x).cells.toList.length)).toArray, E, ?_, Sim.put (hs.write (g := g) he hbk hnF ?_) o.dst (av := .dead) trivial⟩
              · simp only [execOp, ho, e, Sem.run_bind, hrun, Result.andThen_ok]; rfl
              · have hm : ∀ b, E.F b → (w.setRow g (cur.toList.take (j * rw_.k.sz + off) ++ (a.eval x).cells.toList ++ cur.toList.drop (j * rw_.k.sz + off + (a.eval x).cells.toList.length)).toArray).heap[b]? = w.heap[b]? :=
                  fun b q => setRow_other _ _ _ _ (fun e => hnF (e ▸ q))
                refine ⟨⟨splice cells (j * rw_.k.sz + off) (a.eval x).cells.toList, ?_, ?_⟩, hF⟩
                · show World.ownsRow _ _ _ _ _ (List.length (List.set rw_.xs j y)) _
                  rw [List.length_set]
                  exact hown'
                · exact (reps_set hreps hjl (by omega) hR).imp_ fun _ _ q => Rd.step hm (fun _ q => q) q
            · cases h
        · cases h
      · cases h
  · cases h
end
end Go.Vx
