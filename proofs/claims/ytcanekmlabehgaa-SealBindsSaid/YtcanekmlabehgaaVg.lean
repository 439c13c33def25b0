/- Quiet operations, the fourth part: slices, lengths, aggregates, function values, calls. -/
import Derived.Test.YtcanekmlabehgaaVf
namespace Go.Vx
open Go.RowKit Go.Proofs.YtcanekmlabehgaaW.PrintWords
set_option linter.unusedVariables false
set_option linter.unusedSimpArgs false
section
variable {R : Type}
theorem rd_take {w : World} {F : Nat → Prop} {e : K} {xs : List e.T} {A : Option Addr} {c m : Nat} (h : Rd w F (.slice e) xs [.slice A (List.length xs) c]) (hm : m ≤ List.length xs) : Rd w F (.slice e) (List.take m xs) [.slice A m c] := by
  obtain ⟨A', c', q, hc, hr, hF⟩ := h
  obtain ⟨rfl, rfl⟩ : A' = A ∧ c' = c := by injection q with q; injection q with q1 _ q2; exact ⟨q1.symm, q2.symm⟩
  have hl : (List.take m xs).length = m := by rw [List.length_take]; omega
  refine ⟨A', c', by rw [hl], by rw [hl]; omega, ?_, fun h0 ad ha => hF (by rw [hl] at h0; omega) ad ha⟩
  rw [hl]
  refine ⟨hl, by have := hr.2.1; omega, fun h0 => ?_⟩
  obtain ⟨ad, ha, hcells⟩ := hr.2.2 (by omega)
  refine ⟨ad, ha, fun j p hj => hcells j p ?_⟩
  rw [List.getElem?_take] at hj
  split at hj
  · exact hj
  · cases hj
theorem rd_drop {w : World} {F : Nat → Prop} {e : K} {xs : List e.T} {A : Option Addr} {c m : Nat} (h : Rd w F (.slice e) xs [.slice A (List.length xs) c]) (hm : m ≤ List.length xs) : Rd w F (.slice e) (List.drop m xs) [.slice (if c = m then A else A.map (·.add (m * e.sz))) (List.length xs - m) (c - m)] := by
  obtain ⟨A', c', q, hc, hr, hF⟩ := h
  obtain ⟨rfl, rfl⟩ : A' = A ∧ c' = c := by injection q with q; injection q with q1 _ q2; exact ⟨q1.symm, q2.symm⟩
  have hl : (List.drop m xs).length = List.length xs - m := by rw [List.length_drop]
  refine ⟨_, c' - m, by rw [hl], by rw [hl]; omega, ?_, fun h0 ad ha => ?_⟩
  · rw [hl]
    refine ⟨hl, by have := hr.2.1; omega, fun h0 => ?_⟩
    obtain ⟨ad, ha, hcells⟩ := hr.2.2 (by omega)
    rw [if_neg (by omega), ha]
    refine ⟨ad.add (m * e.sz), rfl, fun j p hj => ?_⟩
    rw [List.getElem?_drop] at hj
    obtain ⟨cl, h1, h2, h3⟩ := hcells (m + j) p hj
    refine ⟨cl, h1, h2, fun i u hu => ?_⟩
    rw [add_add', ← Nat.add_assoc, ← Nat.add_mul]
    exact h3 i u hu
  · rw [hl] at h0
    rw [if_neg (by omega)] at ha
    cases hA : A' with
    | none => rw [hA] at ha; cases ha
    | some a0 =>
      rw [hA] at ha
      obtain rfl := Option.some.inj ha
      show F (a0.add (m * e.sz)).block
      rw [add_block]
      exact hF (by omega) a0 hA
/-- A slice that is not written any more. -/
def asSh (s : St) : AV → Option Row
  | .sh k xs => some ⟨k, 0, true, xs⟩
  | .own t => match find t s.ents with
    | some (.row r) => bif r.fz then some r else none
    | _ => none
  | _ => none
theorem asSh_ok {W0 : Base} {E : Env} {s : St} {w : World} (hs : SimS W0 E s w) {av : AV} {u : Value} {r : Row} (h : asSh s av = some r) (hv : VR E w av u) : Rd w E.F (.slice r.k) r.xs [u] := by
  match av, h, hv with
  | .sh k xs, h, hv =>
    obtain rfl := Option.some.inj h
    exact hv
  | .own t, h, hv =>
    have h' : (match find t s.ents with
      | some (.row r) => bif r.fz then some r else none
      | _ => none) = some r := h
    cases he : find t s.ents with
    | none => rw [he] at h'; cases h'
    | some en =>
      cases en with
      | box T cells => rw [he] at h'; cases h'
      | row r' =>
        rw [he] at h'
        simp only [] at h'
        cases hf : r'.fz with
        | false => rw [hf] at h'; cases h'
        | true =>
          rw [hf] at h'
          obtain rfl := Option.some.inj h'
          obtain ⟨_, hok⟩ := hs.ents _ _ he
          rw [hv.2]
          exact own_rd hok.1 (fun b hb => (hok.2 b hb).2 hf)
/-- A part of a slice that is only read. -/
def qSlice (P : Program) (s : St) (T : TypeId) (x : Operand) (lo hi : Option Operand) (k : AV → Option R) : Option R :=
  match P.underlying T with
  | some (.slice e) => match P.info? e with
    | some inf => match asSh s (evl s x) with
      | some ⟨ke, _, _, xs⟩ => bif Nat.beq inf.size ke.sz then (match lo, hi with
        | none, some h => match evl s h with
          | .val (.int _ j) => oif (0 ≤ j) (oif (j ≤ (List.length xs : Int)) (k (.sh ke (List.take j.toNat xs))) none) none
          | _ => none
        | some l, none => match evl s l with
          | .val (.int _ j) => oif (0 ≤ j) (oif (j ≤ (List.length xs : Int)) (k (.sh ke (List.drop j.toNat xs))) none) none
          | _ => none
        | some l, some h => match evl s l, evl s h with
          | .val (.int _ i), .val (.int _ j) => oif (0 ≤ i) (oif (i ≤ j) (oif (j ≤ (List.length xs : Int)) (k (.sh ke (List.take (j.toNat - i.toNat) (List.drop i.toNat xs)))) none) none) none
          | _, _ => none
        | none, none => k (.sh ke xs)) else none
      | _ => none
    | none => none
  | _ => none
theorem qSlice_ok {P : Program} {o : Oper} {s : St} {T : TypeId} {x : Operand} {lo hi : Option Operand} {k : AV → Option R} {r : R} (ho : o.op = .slice T x lo hi none) (h : qSlice P s T x lo hi k = some r) : QOk P o s k r := by
  unfold qSlice oif at h
  split at h
  · rename_i e hd
    have hel : P.elem T = e := by simp [Program.elem, hd]
    have hu : P.underlying T = some (.slice (P.elem T)) := by rw [hel]; exact hd
    split at h
    · rename_i inf hinf
      split at h
      · rename_i ke T_ fz_ xs hx
        cases hsz : Nat.beq inf.size ke.sz with
        | false => rw [hsz] at h; cases h
        | true =>
          rw [hsz] at h
          have hsz' := Nat.eq_of_beq_eq_true hsz
          simp only [cond_true] at h
          have hxv : ∀ (W0 : Base) (E : Env) (a : Act) (w : World), Sim W0 E s a w → ∃ A c, a.eval x = .slice A (List.length xs) c ∧ List.length xs ≤ c ∧ Rd w E.F (.slice ke) xs [.slice A (List.length xs) c] := fun W0 E a w hs => by
            have h3 : Rd w E.F (.slice ke) xs [a.eval x] := asSh_ok hs.toSimS hx (hs.ev x)
            have h2 := h3
            obtain ⟨A, c, e1, hc, _⟩ := h2
            have e2 : a.eval x = .slice A (List.length xs) c := by injection e1
            rw [e2] at h3
            exact ⟨A, c, e2, hc, h3⟩
          split at h
          · rename_i hh
            split at h
            · rename_i kj j hj
              split at h
              · rename_i h0
                split at h
                · rename_i h1
                  refine ⟨_, h, QTo.pure fun W0 E a w hs => ?_⟩
                  obtain ⟨A, c, e1, hc, hR⟩ := hxv W0 E a w hs
                  have e2 : a.eval hh = .int kj j := by have := hs.ev hh; rw [hj] at this; exact this
                  refine ⟨_, rd_take (m := j.toNat) hR (by omega), fun w' _ => ?_⟩
                  simp only [execOp, ho, e1, e2, Option.map_none, Option.map_some, Sem.run_bind, run_sliceAt_slice w' T _ _ _ _ hu, cut_to T e kj hd hinf A (List.length xs) c j h0 h1 hc w', Result.andThen_ok, Sem.run_pure]
                · cases h
              · cases h
            · cases h
          · rename_i ll
            split at h
            · rename_i kj j hj
              split at h
              · rename_i h0
                split at h
                · rename_i h1
                  refine ⟨_, h, QTo.pure fun W0 E a w hs => ?_⟩
                  obtain ⟨A, c, e1, hc, hR⟩ := hxv W0 E a w hs
                  have e2 : a.eval ll = .int kj j := by have := hs.ev ll; rw [hj] at this; exact this
                  refine ⟨_, rd_drop (m := j.toNat) hR (by omega), fun w' _ => ?_⟩
                  simp only [execOp, ho, e1, e2, Option.map_none, Option.map_some, Sem.run_bind, run_sliceAt_slice w' T _ _ _ _ hu, cut_from T e kj hd hinf ke.sz hsz' A (List.length xs) c j h0 h1 w', Result.andThen_ok, Sem.run_pure]
                · cases h
              · cases h
            · cases h
          · rename_i ll hh
            split at h
            · rename_i ki i kj j hi hj
              split at h
              · rename_i h0
                split at h
                · rename_i h1
                  split at h
                  · rename_i h2
                    refine ⟨_, h, QTo.pure fun W0 E a w hs => ?_⟩
                    obtain ⟨A, c, e1, hc, hR⟩ := hxv W0 E a w hs
                    have e2 : a.eval ll = .int ki i := by have := hs.ev ll; rw [hi] at this; exact this
                    have e3 : a.eval hh = .int kj j := by have := hs.ev hh; rw [hj] at this; exact this
                    have hD := rd_drop (m := i.toNat) hR (by omega)
                    have hl : (List.drop i.toNat xs).length = List.length xs - i.toNat := by rw [List.length_drop]
                    rw [← hl] at hD
                    refine ⟨_, rd_take (m := j.toNat - i.toNat) hD (by rw [hl]; omega), fun w' _ => ?_⟩
                    simp only [execOp, ho, e1, e2, e3, Option.map_none, Option.map_some, Sem.run_bind, run_sliceAt_slice w' T _ _ _ _ hu, cut_mid T e ki kj hd hinf ke.sz hsz' A (List.length xs) c i j h0 h1 h2 hc w', Result.andThen_ok, Sem.run_pure]
                  · cases h
                · cases h
              · cases h
            · cases h
          · refine ⟨_, h, QTo.pure fun W0 E a w hs => ?_⟩
            obtain ⟨A, c, e1, hc, hR⟩ := hxv W0 E a w hs
            refine ⟨_, hR, fun w' _ => ?_⟩
            simp only [execOp, ho, e1, Option.map_none, Sem.run_bind, run_sliceAt_slice w' T _ _ _ _ hu]
            simp [Instr.slice, run_underlying hu, Instr.sliceBounds, sizeOf, typeInfo, hel, hinf, Result.andThen]
            intro hc0
            cases A with
            | none => rfl
            | some a0 => simp [Addr.add]
      · cases h
    · cases h
  · cases h
/-- The length of a slice. -/
def qLen (P : Program) (s : St) (T : TypeId) (x : Operand) (k : AV → Option R) : Option R :=
  match P.underlying T with
  | some (.slice e) => match evl s x with
    | .sh ke xs => k (.val (.int .i64 (List.length xs : Int)))
    | .own t => match find t s.ents with
      | some (.row r) => k (.val (.int .i64 (List.length r.xs : Int)))
      | _ => none
    | .val (.slice none 0 0) => k (.val (.int .i64 0))
    | _ => none
  | _ => none
theorem qLen_ok {P : Program} {o : Oper} {s : St} {T : TypeId} {x : Operand} {k : AV → Option R} {r : R} (ho : o.op = .call { callee := .builtin .len, args := #[x], argTypes := #[T] }) (h : qLen P s T x k = some r) : QOk P o s k r := by
  unfold qLen at h
  split at h
  · rename_i e hd
    have hel : P.elem T = e := by simp [Program.elem, hd]
    have hu : P.underlying T = some (.slice (P.elem T)) := by rw [hel]; exact hd
    split at h
    · rename_i ke xs hx
      refine ⟨_, h, QTo.pure fun W0 E a w hs => ⟨_, rfl, fun w' _ => ?_⟩⟩
      have := hs.ev x
      rw [hx] at this
      obtain ⟨A, c, e1, _⟩ := this
      have e2 : a.eval x = .slice A (List.length xs) c := by injection e1
      simp [execOp, ho, resolve, invoke, builtin, e2, run_len_slice w' T o.type A _ c hu, goInt]
    · rename_i t hx
      split at h
      · rename_i rw_ he
        refine ⟨_, h, QTo.pure fun W0 E a w hs => ⟨_, rfl, fun w' _ => ?_⟩⟩
        have := hs.ev x
        rw [hx] at this
        obtain ⟨_, ⟨cells, hown, _⟩, _⟩ := hs.ents _ _ he
        obtain ⟨A, c, hv⟩ := own_slice hown
        have e2 : a.eval x = .slice A (List.length rw_.xs) c := this.2.trans hv
        simp [execOp, ho, resolve, invoke, builtin, e2, run_len_slice w' T o.type A _ c hu, goInt]
      · cases h
    · rename_i hx
      refine ⟨_, h, QTo.pure fun W0 E a w hs => ⟨_, rfl, fun w' _ => ?_⟩⟩
      have e2 : a.eval x = .slice none 0 0 := by have := hs.ev x; rw [hx] at this; exact this
      simp [execOp, ho, resolve, invoke, builtin, e2, run_len_slice w' T o.type none 0 0 hu, goInt]
    · cases h
  · cases h
def mnF (x y : Int) : Int := if y < x then y else x
def mxF (x y : Int) : Int := if y > x then y else x
/-- The lesser, or the greater one, of two numbers. -/
def qMin (least : Bool) (s : St) (x y : Operand) (k : AV → Option R) : Option R :=
  match evl s x, evl s y with
  | .val (.int kx a), .val (.int _ b) => k (.val (.int kx (bif least then mnF a b else mxF a b)))
  | _, _ => none
theorem qMin_ok {P : Program} {o : Oper} {s : St} {x y : Operand} {ats : Array TypeId} {k : AV → Option R} {r : R} {least : Bool} (ho : o.op = .call { callee := .builtin (bif least then .min else .max), args := #[x, y], argTypes := ats }) (h : qMin least s x y k = some r) : QOk P o s k r := by
  unfold qMin at h
  split at h
  · rename_i kx a ky b hx hy
    refine ⟨_, h, QTo.pure fun W0 E ac w hs => ⟨_, rfl, fun w' _ => ?_⟩⟩
    have e1 : ac.eval x = .int kx a := by have := hs.ev x; rw [hx] at this; exact this
    have e2 : ac.eval y = .int ky b := by have := hs.ev y; rw [hy] at this; exact this
    cases least <;> simp [execOp, ho, resolve, invoke, builtin, e1, e2, Builtin.min_, Builtin.max_, Builtin.min2, Builtin.max2, mnF, mxF]
  · cases h
/-- The parts of an aggregate. -/
def partsA (s : St) : List (Nat × Operand) → Option (List (Nat × List AV))
  | [] => some []
  | (i, x) :: l => match cellsA s (evl s x), partsA s l with
    | some cs, some m => some ((i, cs) :: m)
    | _, _ => none
theorem partsA_ok {W0 : Base} {E : Env} {s : St} {a : Act} {w : World} (hs : Sim W0 E s a w) : ∀ {l : List (Nat × Operand)} {m : List (Nat × List AV)}, partsA s l = some m →
    All2 (fun p q => p.1 = q.1 ∧ All2 (VB E w) p.2 q.2.cells.toList) m (l.map fun (p : Nat × Operand) => (p.1, a.eval p.2))
  | [], m, h => by obtain rfl := Option.some.inj h; trivial
  | (i, x) :: l, m, h => by
    unfold partsA at h
    split at h
    · rename_i cs m' hc hm
      obtain rfl := Option.some.inj h
      exact ⟨⟨rfl, cellsA_ok hs.toSimS hc (hs.ev x)⟩, partsA_ok hs hm⟩
    · cases h
def placesA (P : Program) (T : TypeId) : Option (List AV × (Nat → Option (Nat × Nat))) :=
  match P.info? T, P.underlying T with
  | some it, some (.array _ e) => match it.zero, P.info? e with
    | some z, some ie => some (z.cells.toList.map .val, fun i => some (i * ie.size, ie.size))
    | _, _ => none
  | some it, some (.struct fields) => match it.zero, fields.toList.mapM (fun f => (P.info? f.type).map fun i => (f.offset, i.size)) with
    | some z, some places => some (z.cells.toList.map .val, fun i => places.toArray[i]?)
    | _, _ => none
  | _, _ => none
/-- An aggregate is built. -/
def qBuild (P : Program) (s : St) (T : TypeId) (parts : Array (Nat × Operand)) (k : AV → Option R) : Option R :=
  match placesA P T, partsA s parts.toList with
  | some (z, pl), some ps => match fillA pl z ps with
    | some out => k (.agg out)
    | none => none
  | _, _ => none
theorem qBuild_ok {P : Program} {o : Oper} {s : St} {T : TypeId} {parts : Array (Nat × Operand)} {k : AV → Option R} {r : R} (ho : o.op = .build T parts) (h : qBuild P s T parts k = some r) : QOk P o s k r := by
  unfold qBuild at h
  split at h
  · rename_i z pl ps hpl hps
    split at h
    · rename_i out hout
      refine ⟨_, h, QTo.pure fun W0 E a w hs => ?_⟩
      have hparts := partsA_ok hs hps
      have hz : ∃ zv : Value, z = zv.cells.toList.map .val ∧ ∀ (vs : List (Nat × Value)) (c : Array Value), Instr.fill pl zv.cells vs = some c → P.built T vs = some c := by
        unfold placesA at hpl
        split at hpl
        · rename_i it n e hi hd
          split at hpl
          · rename_i z0 ie hz0 hie
            obtain ⟨rfl, rfl⟩ := Prod.mk.inj (Option.some.inj hpl)
            exact ⟨z0, rfl, fun vs c hc => by unfold Program.built; simp only [hi, hd, hz0, hie]; exact hc⟩
          · cases hpl
        · rename_i it fields hi hd
          split at hpl
          · rename_i z0 places hz0 hpp
            obtain ⟨rfl, rfl⟩ := Prod.mk.inj (Option.some.inj hpl)
            exact ⟨z0, rfl, fun vs c hc => by unfold Program.built; simp only [hi, hd, hz0, hpp]; exact hc⟩
          · cases hpl
        · cases hpl
      obtain ⟨zv, rfl, hb⟩ := hz
      have hzc : All2 (VB E w) (zv.cells.toList.map AV.val) zv.cells.toList := by
        have := All2.map (R := VB E w) (fun v : Value => AV.val v) id (fun _ => rfl) zv.cells.toList
        simpa using this
      obtain ⟨outv, hf, hR⟩ := fillA_ok hparts hzc hout
      refine ⟨.agg outv, ⟨outv.toList, by simp, hR⟩, fun w' _ => ?_⟩
      have hbt := hb _ _ hf
      have e2 : (parts.map fun (p : Nat × Operand) => (p.1, a.eval p.2)).toList = parts.toList.map fun (p : Nat × Operand) => (p.1, a.eval p.2) := by simp
      rw [← e2] at hbt
      simp only [execOp, ho, Sem.run_bind]
      rw [show (parts.map fun (x : Nat × Operand) => match x with | (i, x) => (i, a.eval x)) = parts.map fun (p : Nat × Operand) => (p.1, a.eval p.2) from rfl, run_build w' T _ outv hbt]
      rfl
    · cases h
  · cases h
def isA : AV → Bool
  | .val _ => true
  | .own _ => true
  | .sh _ _ => true
  | .ptr _ _ => true
  | .epo _ _ _ _ => true
  | _ => false
theorem VR.a {E : Env} {w : World} {av : AV} {v : Value} (h : VR E w av v) (ha : isA av = true) : VA E w av v := by
  cases av <;> first | exact h | cases ha
/-- A function value with what it captures. -/
def qMakeFunc (s : St) (fn : Fn) (first captured : Array Operand) (k : AV → Option R) : Option R :=
  match fn, first.toList with
  | .func f, [] => bif captured.toList.all (fun x => isA (evl s x)) then k (.fn f (captured.toList.map (evl s))) else none
  | _, _ => none
theorem qMakeFunc_ok {P : Program} {o : Oper} {s : St} {fn : Fn} {first captured : Array Operand} {k : AV → Option R} {r : R} (ho : o.op = .makeFunc fn first captured) (h : qMakeFunc s fn first captured k = some r) : QOk P o s k r := by
  unfold qMakeFunc at h
  split at h
  · rename_i f hf
    cases ha : captured.toList.all (fun x => isA (evl s x)) with
    | false => rw [ha] at h; cases h
    | true =>
      rw [ha] at h
      refine ⟨_, h, QTo.pure fun W0 E a w hs => ⟨.func (.func f) #[] (captured.map a.eval), ⟨captured.toList.map a.eval, by rw [← Array.toList_map, Array.toArray_toList], ?_⟩, fun w' _ => ?_⟩⟩
      · have : ∀ l : List Operand, l.all (fun x => isA (evl s x)) = true → All2 (VA E w) (l.map (evl s)) (l.map a.eval) := by
          intro l
          induction l with
          | nil => intro _; trivial
          | cons x l ih =>
            intro hl
            simp only [List.all_cons, Bool.and_eq_true] at hl
            exact ⟨(hs.ev x).a hl.1, ih hl.2⟩
        exact this _ ha
      · have hfi : first = #[] := by
          cases first with
          | mk l => simp at hf; rw [hf]
        simp [execOp, ho, Instr.makeFunc, hfi]
  · cases h
def qNil (s : St) (x : Operand) (k : AV → Option R) : Option R :=
  match evl s x with
  | .ptr t o => k (.ptr t o)
  | .cp cs => k (.cp cs)
  | .epo t i z o => k (.epo t i z o)
  | .fn f cs => k (.fn f cs)
  | _ => none
theorem qNil_ok {P : Program} {o : Oper} {s : St} {x : Operand} {k : AV → Option R} {r : R} (ho : o.op = .nilCheck x) (h : qNil s x k = some r) : QOk P o s k r := by
  unfold qNil at h
  split at h
  · rename_i t off hx
    refine ⟨_, h, QTo.pure fun W0 E a w hs => ⟨_, by have := hs.ev x; rw [hx] at this; exact this, fun w' _ => ?_⟩⟩
    have := hs.ev x; rw [hx] at this
    obtain ⟨_, b, _, e⟩ := this
    simp [execOp, ho, e]
  · rename_i cs hx
    refine ⟨_, h, QTo.pure fun W0 E a w hs => ⟨_, by have := hs.ev x; rw [hx] at this; exact this, fun w' _ => ?_⟩⟩
    have := hs.ev x; rw [hx] at this
    obtain ⟨ad, vals, e, _⟩ := this
    simp [execOp, ho, e]
  · rename_i t i z off hx
    refine ⟨_, h, QTo.pure fun W0 E a w hs => ⟨_, by have := hs.ev x; rw [hx] at this; exact this, fun w' _ => ?_⟩⟩
    have := hs.ev x; rw [hx] at this
    obtain ⟨_, g, n, c, _, _, e⟩ := this
    simp [execOp, ho, e]
  · rename_i f cs hx
    refine ⟨_, h, QTo.pure fun W0 E a w hs => ⟨_, by have := hs.ev x; rw [hx] at this; exact this, fun w' _ => ?_⟩⟩
    have := hs.ev x; rw [hx] at this
    obtain ⟨vals, e, _⟩ := this
    simp [execOp, ho, e]
  · cases h
end
end Go.Vx
