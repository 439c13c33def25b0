/- Rows: they are frozen, built, made, appended to. -/
import Derived.Test.YtcanekmlabehgaaVi
namespace Go.Vx
open Go.RowKit Go.Proofs.YtcanekmlabehgaaW.PrintWords
set_option linter.unusedVariables false
set_option linter.unusedSimpArgs false
section
variable {R : Type}
/-- A row is not written any more. -/
def frz (s : St) (t : Nat) : St :=
  match find t s.ents with
  | some (.row r) => ⟨s.tmps, upd t (.row ⟨r.k, r.T, true, r.xs⟩) s.ents, s.nx⟩
  | _ => s
theorem Sim.frz {W0 : Base} {E : Env} {s : St} {a : Act} {w : World} (h : Sim W0 E s a w) (t : Nat) : ∃ E', Sim W0 E' (Vx.frz s t) a w ∧ Stp E w E' w ∧ (∀ b, E'.F b → b < w.heap.size) := by
  unfold Vx.frz
  split
  · rename_i r he
    obtain ⟨hu, hok⟩ := h.ents t _ he
    have st : Stp E w ⟨E.vs, fun b => E.F b ∨ blk (E.vs t) = some b, E.U⟩ w := ⟨fun _ _ => rfl, fun _ q => q, fun _ q => .inl q, fun _ _ => rfl⟩
    have hfz : ∀ b, (E.F b ∨ blk (E.vs t) = some b) → b < w.heap.size := fun b q => by
      rcases q with q | q
      · exact h.fz b q
      · exact (hok.blk_lt q).2
    refine ⟨⟨E.vs, fun b => E.F b ∨ blk (E.vs t) = some b, E.U⟩, h.turn st ?_ rfl, st, hfz⟩
    refine h.toSimS.turn st h.below hfz (fun b q => ?_) h.used ?_ ?_
    · rcases q with q | q
      · exact h.old b q
      · exact .inr (hok.blk_lt q).1
    · intro t' d ht
      simp only at ht
      rw [find_upd] at ht
      by_cases q : t' = t
      · rw [if_pos q] at ht
        obtain rfl := Option.some.inj ht
        subst q
        obtain ⟨⟨cells, ho, hr⟩, hF⟩ := hok
        exact .inr ⟨hu, ⟨cells, ho, hr.imp_ fun _ _ q => Rd.step (fun _ _ => rfl) (fun _ q => .inl q) q⟩, fun b hb => ⟨fun _ => rfl, fun _ => .inr hb⟩⟩
      · rw [if_neg q] at ht
        refine .inl ⟨ht, fun b hb => ⟨rfl, fun q2 => ?_⟩⟩
        rcases q2 with q2 | q2
        · exact q2
        · exact (h.apart t' t d _ b q ht he hb q2).elim
    · intro t1 t2 e1 e2 b hne h1 h2 hb1 hb2
      simp only at h1 h2
      rw [find_upd] at h1 h2
      have f1 : ∃ d, find t1 s.ents = some d := by
        by_cases q : t1 = t
        · exact ⟨_, by rw [q]; exact he⟩
        · rw [if_neg q] at h1; exact ⟨_, h1⟩
      have f2 : ∃ d, find t2 s.ents = some d := by
        by_cases q : t2 = t
        · exact ⟨_, by rw [q]; exact he⟩
        · rw [if_neg q] at h2; exact ⟨_, h2⟩
      obtain ⟨d1, f1⟩ := f1
      obtain ⟨d2, f2⟩ := f2
      exact h.apart t1 t2 d1 d2 b hne f1 f2 hb1 hb2
  · exact ⟨E, h, Stp.refl _ _, h.fz⟩
def frzs (s : St) : List AV → St
  | [] => s
  | .own t :: l => frzs (frz s t) l
  | _ :: l => frzs s l
theorem Sim.frzs {W0 : Base} {a : Act} {w : World} : ∀ (l : List AV) {E : Env} {s : St}, Sim W0 E s a w → ∃ E', Sim W0 E' (Vx.frzs s l) a w ∧ Stp E w E' w
  | [], E, s, h => ⟨E, h, Stp.refl _ _⟩
  | c :: l, E, s, h => by
    cases c with
    | own t =>
      obtain ⟨E1, h1, st1, _⟩ := h.frz t
      obtain ⟨E2, h2, st2⟩ := Sim.frzs l h1
      exact ⟨E2, h2, st1.trans st2⟩
    | _ => exact Sim.frzs l h
/-- The kind of a type's data. -/
def kindOf (P : Program) : Nat → TypeId → Option K
  | 0, _ => none
  | n + 1, T => match P.underlying T with
    | some (.int k) => some (.int k)
    | some .bool => some .bool
    | some .string => some .str
    | some (.slice e) => (kindOf P n e).map .slice
    | some (.struct fs) => fs.toList.foldr (fun f acc => match kindOf P n f.type, acc with
      | some k, some none => some (some k)
      | some k, some (some l) => some (some (.pair k l))
      | _, _ => none) (some none) |>.bind id
    | some (.array m e) => (List.replicate m ()).foldr (fun _ acc => match kindOf P n e, acc with
      | some k, some none => some (some k)
      | some k, some (some l) => some (some (.pair k l))
      | _, _ => none) (some none) |>.bind id
    | _ => none
/-- Cells as a list of data. -/
def prjs (s : St) (k : K) : Nat → List AV → Option (List k.T)
  | 0, _ => some []
  | n + 1, cs => match prj s false k (cs.take k.sz), prjs s k n (cs.drop k.sz) with
    | some x, some xs => some (x :: xs)
    | _, _ => none
theorem reps_cons {α : Type} {R : α → List Value → Prop} {size : Nat} {x : α} {xs : List α} {c cs : List Value} (hc : c.length = size) (hx : R x c) (h : Reps R size xs cs) : Reps R size (x :: xs) (c ++ cs) := by
  refine ⟨by rw [List.length_append, hc, h.1, List.length_cons, Nat.succ_mul, Nat.add_comm], fun j p hj => ?_⟩
  cases j with
  | zero =>
    obtain rfl := Option.some.inj hj
    rw [Nat.zero_mul, List.drop_zero, ← hc, List.take_left]
    exact hx
  | succ j =>
    have := h.2 j p (by simpa using hj)
    rw [Nat.succ_mul, Nat.add_comm, ← hc, ← List.drop_drop, List.drop_left]
    rw [← hc] at this
    exact this
theorem prjs_rd {W0 : Base} {E : Env} {s : St} {w : World} (hs : SimS W0 E s w) {k : K} : ∀ {n : Nat} {cells : List AV} {xs : List k.T} {vals : List Value}, prjs s k n cells = some xs → All2 (VB E w) cells vals → cells.length = n * k.sz →
    List.length xs = n ∧ Reps (Rd w E.F k) k.sz xs vals
  | 0, cells, xs, vals, h, hc, hl => by
    obtain rfl := Option.some.inj h
    have : vals.length = 0 := by rw [← hc.length, hl, Nat.zero_mul]
    exact ⟨rfl, by rw [List.length_eq_zero_iff.1 this]; exact Reps.none _ _⟩
  | n + 1, cells, xs, vals, h, hc, hl => by
    unfold prjs at h
    split at h
    · rename_i x ys hx hy
      obtain rfl := Option.some.inj h
      have hR := prj_rd hs (F := E.F) (fun _ q => q) (any := false) (fun q => by cases q) hx (hc.take _)
      obtain ⟨h1, h2⟩ := prjs_rd hs hy (hc.drop _) (by rw [List.length_drop, hl, Nat.succ_mul]; omega)
      refine ⟨by rw [List.length_cons, h1], ?_⟩
      have := reps_cons hR.len hR h2
      rwa [List.take_append_drop] at this
    · cases h
theorem reps_replicate {α : Type} {Q : α → List Value → Prop} {size : Nat} {x : α} {c : List Value} (hc : c.length = size) (hx : Q x c) : ∀ n, Reps Q size (List.replicate n x) (List.replicate n c).flatten
  | 0 => Reps.none _ _
  | n + 1 => by
    rw [List.replicate_succ, List.replicate_succ, List.flatten_cons]
    exact reps_cons hc hx (reps_replicate hc hx n)
theorem madeCells_flat (z : Array Value) (hz : 0 < z.size) : ∀ n, (madeCells z (n * z.size)).toList = (List.replicate n z.toList).flatten := by
  intro n
  apply List.ext_getElem?
  intro j
  have hfl : ∀ n, ((List.replicate n z.toList).flatten).length = n * z.size := by
    intro n
    induction n with
    | zero => simp
    | succ n ih => rw [List.replicate_succ, List.flatten_cons, List.length_append, ih, Array.length_toList, Nat.succ_mul, Nat.add_comm]
  have hget : ∀ n j, j < n * z.size → ((List.replicate n z.toList).flatten)[j]? = some z[j % z.size]! := by
    intro n
    induction n with
    | zero => intro j hj; omega
    | succ n ih =>
      intro j hj
      rw [List.replicate_succ, List.flatten_cons]
      by_cases q : j < z.size
      · rw [List.getElem?_append_left (by simpa using q), Nat.mod_eq_of_lt q, Array.getElem?_toList, Array.getElem?_eq_getElem q, getElem!_pos z j q]
      · rw [List.getElem?_append_right (by simp; omega), Array.length_toList, ih (j - z.size) (by rw [Nat.succ_mul] at hj; omega)]
        rw [← Nat.mod_eq_sub_mod (by omega)]
  by_cases q : j < n * z.size
  · rw [hget n j q]
    simp [madeCells, q]
  · rw [List.getElem?_eq_none (by simp [madeCells]; omega), List.getElem?_eq_none (by rw [hfl]; omega)]
/-- A slice of a literal. -/
def oBuildSlice (P : Program) (o : Oper) (s : St) (T : TypeId) (len : Nat) (parts : Array (Nat × Operand)) (k : St → Option R) : Option R :=
  match P.underlying T with
  | some (.slice e) => match P.info? e, kindOf P 20 e with
    | some i, some ke => match i.zero, partsA s parts.toList with
      | some z, some ps => bif Nat.beq i.size ke.sz && Nat.ble (len * i.size) (2 ^ 24) && Nat.ble len (2 ^ 24) && Nat.beq z.cells.size i.size && Nat.ble 1 i.size then
          (match fillA (fun j => some (j * i.size, i.size)) ((List.replicate len z.cells.toList).flatten.map .val) ps with
          | some out => match prjs (frzs s out) ke len out with
            | some xs => k (((frzs s out).add (.row ⟨ke, e, false, xs⟩)).put o.dst (.own (frzs s out).nx))
            | none => none
          | none => none) else none
      | _, _ => none
    | _, _ => none
  | _ => none
theorem Sim.newRow {W0 : Base} {E : Env} {s : St} {a : Act} {w : World} (h : Sim W0 E s a w) {k : K} {T : TypeId} {xs : List k.T} {cs : Array Value} {v : Value} {c : List Value} (d : Option Tmp) (hv : blk v = some w.heap.size)
    (hown : (w.alloc (.cells cs T)).ownsRow W0.W.heap.size T k.sz v (List.length xs) c) (hr : Reps (Rd w E.F k) k.sz xs c) :
    Sim W0 (E.add s.nx v E.F) ((s.add (.row ⟨k, T, false, xs⟩)).put d (.own s.nx)) (a.put d v) (w.alloc (.cells cs T)) := by
  have hb := below_alloc1 w (.cells cs T)
  refine Sim.put (h.fresh hb (fun _ q => q) (fun b q => ⟨?_, .inl q⟩) ?_ ?_) d ?_
  · have := h.fz b q; rw [alloc_size]; omega
  · refine ⟨⟨c, hown, hr.imp_ fun _ _ q => Rd.step (fun b q => hb.block b (h.fz b q)) (fun _ q => q) q⟩, fun b hb' => ⟨fun q => ?_, fun q => by cases q⟩⟩
    rw [hv] at hb'
    obtain rfl := Option.some.inj hb'
    exact absurd (h.fz _ q) (Nat.lt_irrefl _)
  · intro b hb'
    rw [hv] at hb'
    obtain rfl := Option.some.inj hb'
    exact Nat.le_refl _
  · exact ⟨.inr rfl, by simp [Env.add]⟩
theorem fillA_len (place : Nat → Option (Nat × Nat)) : ∀ {parts : List (Nat × List AV)} {cells out : List AV}, fillA place cells parts = some out → out.length = cells.length
  | [], _, _, h => by obtain rfl := Option.some.inj h; rfl
  | (i, new) :: rest, cells, out, h => by
    unfold fillA at h
    split at h
    · rename_i off size _
      cases hb : Nat.beq new.length size && Nat.ble (off + new.length) cells.length with
      | false => rw [hb] at h; cases h
      | true =>
        rw [hb] at h
        simp only [Bool.and_eq_true] at hb
        rw [fillA_len place h, splice_len (Nat.le_of_ble_eq_true hb.2)]
    · cases h
theorem run_buildSlice {P : Program} {T e : TypeId} {i : TypeInfo} {z : Value} {len : Nat} {parts : Array (Nat × Value)} {outv : Array Value} (hd : P.underlying T = some (.slice e)) (hi : P.info? e = some i) (hz : i.zero = some z) (hl : len * i.size ≤ 2 ^ 24)
    (hf : Instr.fill (fun j => some (j * i.size, i.size)) (if len * i.size = 0 then #[] else (Array.range (len * i.size)).map (z.cells[· % z.cells.size]!)) parts.toList = some outv) (w : World) :
    (Instr.buildSlice T len parts).run P w = .ok (.slice (some ⟨w.heap.size, 0, none⟩) len len) (w.alloc (.cells outv e)) := by
  by_cases h0 : len * i.size = 0
  · rw [if_pos h0] at hf
    simp [Instr.buildSlice, run_underlying hd, sizeOf, typeInfo, hi, zeroValue, hz, h0, hf, newRow, newObj, run_newObj', Array.range_zero']
  · rw [if_neg h0] at hf
    have : ¬ (2 ^ 24 < len * i.size) := by omega
    simp [Instr.buildSlice, run_underlying hd, sizeOf, typeInfo, hi, zeroValue, hz, h0, hf, newRow, newObj, run_newObj', this]
theorem oBuildSlice_ok {P : Program} {o : Oper} {s : St} {T : TypeId} {len : Nat} {parts : Array (Nat × Operand)} {k : St → Option R} {r : R} (ho : o.op = .buildSlice T len parts) (h : oBuildSlice P o s T len parts k = some r) : OOk P o s k r := by
  unfold oBuildSlice at h
  split at h
  · rename_i e hd
    split at h
    · rename_i i ke hi hke
      split at h
      · rename_i z ps hz hps
        cases hc : Nat.beq i.size ke.sz && Nat.ble (len * i.size) (2 ^ 24) && Nat.ble len (2 ^ 24) && Nat.beq z.cells.size i.size && Nat.ble 1 i.size with
        | false => rw [hc] at h; cases h
        | true =>
          rw [hc] at h
          simp only [cond_true] at h
          simp only [Bool.and_eq_true] at hc
          obtain ⟨⟨⟨⟨hsz, hl⟩, hlen⟩, hzs⟩, hpos⟩ := hc
          have hzs := Nat.eq_of_beq_eq_true hzs
          have hpos := Nat.le_of_ble_eq_true hpos
          have hcells : (List.replicate len z.cells.toList).flatten = ((if len * i.size = 0 then #[] else (Array.range (len * i.size)).map (z.cells[· % z.cells.size]!)) : Array Value).toList := by
            rw [← hzs, ← madeCells_flat z.cells (by omega) len]
            by_cases h0 : len * z.cells.size = 0
            · rw [if_pos h0, h0]; simp [madeCells]
            · rw [if_neg h0]; rfl
          rw [hcells] at h
          have hsz := Nat.eq_of_beq_eq_true hsz
          have hl := Nat.le_of_ble_eq_true hl
          have hlen := Nat.le_of_ble_eq_true hlen
          split at h
          · rename_i out hout
            split at h
            · rename_i xs hxs
              refine ⟨_, h, OTo.of fun W0 E a w hs => ?_⟩
              obtain ⟨outv, hf, hR⟩ := fillA_ok (partsA_ok hs hps) (vals_all2 (E := E) (w := w) _) hout
              obtain ⟨E1, h1, st1⟩ := hs.frzs out
              have hR1 := hR.imp fun _ _ q => VB.step st1 q
              have hol : out.length = len * ke.sz := by
                rw [fillA_len _ hout, List.length_map, Array.length_toList, ← hsz]
                split
                · rename_i h0; rw [h0]; rfl
                · simp
              obtain ⟨hn, hreps⟩ := prjs_rd h1.toSimS hxs hR1 hol
              have e2 : (parts.map fun (p : Nat × Operand) => (p.1, a.eval p.2)).toList = parts.toList.map fun (p : Nat × Operand) => (p.1, a.eval p.2) := by simp
              rw [← e2] at hf
              have hrun := run_buildSlice hd hi hz hl hf w
              have hown : (w.alloc (.cells outv e)).ownsRow W0.W.heap.size e ke.sz (.slice (some ⟨w.heap.size, 0, none⟩) len len) (List.length xs) outv.toList := by
                rw [hn]
                exact World.ownsRow_lit w outv len hs.below.size (by simp only [maxLen]; omega) (by rw [← Array.length_toList, ← hR.length, hol])
              refine ⟨_, _, _, ?_, h1.newRow o.dst rfl hown hreps⟩
              simp only [execOp, ho, Sem.run_bind]
              rw [show (parts.map fun (x : Nat × Operand) => match x with | (i, x) => (i, a.eval x)) = parts.map fun (p : Nat × Operand) => (p.1, a.eval p.2) from rfl, hrun]
              rfl
            · cases h
          · cases h
      · cases h
    · cases h
  · cases h
end
end Go.Vx
