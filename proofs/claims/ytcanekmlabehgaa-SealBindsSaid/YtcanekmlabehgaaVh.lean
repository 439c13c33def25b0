/- Calls of functions with contracts; all quiet operations; regions of them, in whatever order. -/
import Derived.Test.YtcanekmlabehgaaVg
namespace Go.Vx
open Go.RowKit Go.Proofs.YtcanekmlabehgaaW.PrintWords
set_option linter.unusedVariables false
set_option linter.unusedSimpArgs false
section
variable {R : Type}
/-- One cell that is no aggregate. -/
def cell1 (s : St) : AV → Option AV
  | .val (.agg _) => none
  | .agg _ => none
  | av => match cellsA s av with
    | some [c] => some c
    | _ => none
theorem cell1_ok {W0 : Base} {E : Env} {s : St} {w : World} (hs : SimS W0 E s w) {av c : AV} {v : Value} (h : cell1 s av = some c) (hv : VR E w av v) : VB E w c v := by
  have key : cellsA s av = some [c] → (∀ cs, v ≠ .agg cs) → VB E w c v := fun hc hne => by
    have := cellsA_ok hs hc hv
    rw [cells_noagg hne] at this
    exact this.1
  match av, h, hv with
  | .val u, h, hv =>
    obtain rfl : v = u := hv
    have hne : ∀ cs, v ≠ .agg cs := by
      intro cs e
      subst e
      cases h
    have hc : cellsA s (.val v) = some [c] := by
      have h' : (match cellsA s (.val v) with | some [c] => some c | _ => none) = some c := by
        cases v <;> first | exact h | exact absurd rfl (hne _)
      split at h'
      · rename_i c' hc
        rw [hc, Option.some.inj h']
      · cases h'
    exact key hc hne
  | .own t, h, hv =>
    have h' : (match cellsA s (.own t) with | some [c] => some c | _ => none) = some c := h
    split at h'
    · rename_i c' hc
      obtain rfl := Option.some.inj h'
      refine key hc ?_
      simp only [cellsA] at hc
      split at hc
      · rename_i e he
        obtain ⟨_, hok⟩ := hs.ents _ _ he
        rw [hv.2]
        exact hok.noagg
      · cases hc
    · cases h'
  | .sh k xs, h, hv =>
    obtain rfl : c = .sh k xs := (Option.some.inj h).symm
    exact hv
  | .ptr t o, h, hv =>
    obtain rfl : c = .ptr t o := (Option.some.inj h).symm
    exact hv
  | .epo t i z o, h, hv =>
    obtain rfl : c = .epo t i z o := (Option.some.inj h).symm
    exact hv
  | .fn f cs, h, hv =>
    obtain rfl : c = .fn f cs := (Option.some.inj h).symm
    exact hv
/-- Arguments' cells, in a row. -/
def flatA (s : St) : List (Option Nat) → List AV → Option (List AV)
  | [], [] => some []
  | none :: l, av :: m => match cell1 s av, flatA s l m with
    | some c, some cs => some (c :: cs)
    | _, _ => none
  | some n :: l, av :: m => match av, cellsA s av, flatA s l m with
    | .agg _, some c, some cs => bif Nat.beq c.length n then some (c ++ cs) else none
    | .val (.agg _), some c, some cs => bif Nat.beq c.length n then some (c ++ cs) else none
    | _, _, _ => none
  | _, _ => none
theorem flatA_ok {W0 : Base} {E : Env} {s : St} {w : World} (hs : SimS W0 E s w) : ∀ {l : List (Option Nat)} {m : List AV} {vs : List Value} {cells : List AV}, flatA s l m = some cells → All2 (VR E w) m vs →
    ∃ vals, All2 (VB E w) cells vals ∧ joinA l vals = vs
  | [], [], [], cells, h, _ => ⟨[], by obtain rfl := Option.some.inj h; trivial, rfl⟩
  | none :: l, av :: m, v :: vs, cells, h, hv => by
    simp only [flatA] at h
    split at h
    · rename_i c cs h1 h2
      obtain rfl := Option.some.inj h
      obtain ⟨vals, hc, hj⟩ := flatA_ok hs h2 hv.2
      exact ⟨v :: vals, ⟨cell1_ok hs h1 hv.1, hc⟩, by simp only [joinA, hj]⟩
    · cases h
  | some n :: l, av :: m, v :: vs, cells, h, hv => by
    have key : ∀ (c cs : List AV) (arr : Array Value), v = .agg arr → cellsA s av = some c → flatA s l m = some cs → (bif Nat.beq c.length n then some (c ++ cs) else none) = some cells →
        ∃ vals, All2 (VB E w) cells vals ∧ joinA (some n :: l) vals = v :: vs := fun c cs arr e h1 h2 h3 => by
      cases hb : Nat.beq c.length n with
      | false => rw [hb] at h3; cases h3
      | true =>
        rw [hb] at h3
        obtain rfl := Option.some.inj h3
        obtain ⟨vals, hc, hj⟩ := flatA_ok hs h2 hv.2
        have h4 := cellsA_ok hs h1 hv.1
        subst e
        have hl : arr.toList.length = n := by
          rw [← Nat.eq_of_beq_eq_true hb]
          exact h4.length.symm
        refine ⟨arr.toList ++ vals, h4.append hc, ?_⟩
        simp only [joinA]
        rw [← hl, List.take_left, List.drop_left, hj, Array.toArray_toList]
    simp only [flatA] at h
    split at h
    · obtain ⟨vals, e, _⟩ := hv.1
      exact key _ _ vals.toArray e (by assumption) (by assumption) h
    · exact key _ _ _ hv.1 (by assumption) (by assumption) h
    · cases h
/-- The cells of plain results. -/
def plainA : (k : K) → k.T → List AV
  | .int k, x => [.val (.int k x)]
  | .bool, x => [.val (.bool x)]
  | .str, x => [.val (.string x)]
  | .pair a b, x => plainA a x.1 ++ plainA b x.2
  | _, _ => []
def plainAs : (l : List Item) → itemsT l → List AV
  | [], _ => []
  | [.im k], x => plainA k x
  | .im k :: b :: l, x => plainA k x.1 ++ plainAs (b :: l) x.2
  | _, _ => []
theorem plainA_ok {E : Env} {w : World} : ∀ (k : K) (x : k.T), All2 (VB E w) (plainA k x) (plainV k x)
  | .int _, _ => ⟨rfl, trivial⟩
  | .bool, _ => ⟨rfl, trivial⟩
  | .str, _ => ⟨rfl, trivial⟩
  | .pair a b, x => (plainA_ok a x.1).append (plainA_ok b x.2)
  | .slice _, _ => trivial
  | .unit, _ => trivial
theorem plainAs_ok {E : Env} {w : World} : ∀ (l : List Item) (x : itemsT l), All2 (VB E w) (plainAs l x) (plainVs l x)
  | [], _ => trivial
  | [.im k], x => plainA_ok k x
  | .im k :: b :: l, x => (plainA_ok k x.1).append (plainAs_ok (b :: l) x.2)
  | [.own _ _], _ => trivial
  | .own _ _ :: _ :: _, _ => trivial
def joinAV : List (Option Nat) → List AV → List AV
  | [], _ => []
  | none :: l, c :: cs => c :: joinAV l cs
  | none :: _, [] => []
  | some n :: l, cs => .agg (cs.take n) :: joinAV l (cs.drop n)
theorem joinAV_ok {E : Env} {w : World} : ∀ {l : List (Option Nat)} {cells : List AV} {vals : List Value}, All2 (VB E w) cells vals → All2 (VC E w) (joinAV l cells) (joinA l vals)
  | [], _, _, _ => trivial
  | none :: l, c :: cs, v :: vs, h => ⟨h.1.c, joinAV_ok h.2⟩
  | none :: l, [], [], h => trivial
  | none :: l, [], _ :: _, h => h.elim
  | none :: l, _ :: _, [], h => h.elim
  | some n :: l, cs, vs, h => ⟨⟨vs.take n, rfl, h.take n⟩, joinAV_ok (h.drop n)⟩
def retA : Ret → List AV → AV
  | .one none, cs => nth cs 0
  | .one (some n), cs => .agg (cs.take n)
  | .tup l, cs => .tup (joinAV l cs)
theorem retA_ok {E : Env} {w : World} (rt : Ret) {cells : List AV} {vals : List Value} (h : All2 (VB E w) cells vals) : VR E w (retA rt cells) (rt.val vals) := by
  match rt, cells, vals, h with
  | .one none, [], [], h => trivial
  | .one none, c :: cs, v :: vs, h => exact h.1.r
  | .one (some n), cells, vals, h => exact ⟨vals.take n, rfl, h.take n⟩
  | .tup l, cells, vals, h => exact ⟨joinA l vals, rfl, joinAV_ok h⟩
theorem run_call {P : Program} {f : FuncId} {fn : Func} (h1 : P.funcs[f]? = some fn) (h2 : fn.body.isSome = true) (h3 : (fn.name == "runtime.NumGoroutine") = false) {a : Act} {o : Oper} {fo : Operand} {args : Array Operand} {ats : Array TypeId} (ho : o.op = .call { callee := .value fo, args := args, argTypes := ats }) {caps : Array Value} (hf : a.eval fo = .func (.func f) #[] caps) (w : World) :
    (execOp a.eval o).run P w = .ok (.enter f (args.map a.eval ++ caps)) w := by
  have h2' : fn.body.isNone = false := by cases hb : fn.body <;> simp_all
  simp only [execOp, ho, resolve, hf, Deferred.ofValue, Sem.run_bind, Sem.run_pure, Result.andThen_ok, invoke, callFunc, program, Sem.run]
  simp [h1, h2', h3]
theorem evls_ok {W0 : Base} {E : Env} {s : St} {a : Act} {w : World} (hs : Sim W0 E s a w) : ∀ l : List Operand, All2 (VR E w) (l.map (evl s)) (l.map a.eval)
  | [] => trivial
  | x :: l => ⟨hs.ev x, evls_ok hs l⟩
/-- A call that yields plain data. -/
def qCall (fns : Fns) (s : St) (fo : Operand) (args : Array Operand) (k : AV → Option R) : Option R :=
  match evl s fo with
  | .fn f [] => match fns.get f with
    | some sp => bif plainI sp.items then (match flatA s sp.shape (args.toList.map (evl s)) with
      | some cells => match prj s true sp.argK cells with
        | some x => obd (sp.run x) fun r => k (retA sp.ret (plainAs sp.items r))
        | none => none
      | none => none) else none
    | none => none
  | _ => none
theorem qCall_ok {P : Program} {fns : Fns} (hg : fns.good P) {o : Oper} {s : St} {fo : Operand} {args : Array Operand} {ats : Array TypeId} {k : AV → Option R} {r : R} (ho : o.op = .call { callee := .value fo, args := args, argTypes := ats }) (h : qCall fns s fo args k = some r) : QOk P o s k r := by
  unfold qCall at h
  split at h
  · rename_i f hf
    split at h
    · rename_i sp hsp
      cases hp : plainI sp.items with
      | false => rw [hp] at h; cases h
      | true =>
        rw [hp] at h
        simp only [cond_true] at h
        split at h
        · rename_i cells hcells
          split at h
          · rename_i x hx
            obtain ⟨y, hy, hk⟩ := Option.bind_eq_some_iff.1 h
            refine ⟨_, hk, fun W0 E a w hs => ?_⟩
            obtain ⟨hen, hends⟩ := hg f sp hsp
            obtain ⟨fn, e1, e2, e3⟩ := hen
            have hfo : a.eval fo = .func (.func f) #[] #[] := by
              have := hs.ev fo
              rw [hf] at this
              obtain ⟨vals, e, hc⟩ := this
              match vals, hc with
              | [], _ => exact e
            obtain ⟨vals, hc, hj⟩ := flatA_ok hs.toSimS hcells (evls_ok hs args.toList)
            have hargs : args.map a.eval ++ #[] = (joinA sp.shape vals).toArray := by
              rw [hj, Array.append_empty, ← Array.toList_map, Array.toArray_toList]
            have hR := prj_rd hs.toSimS (F := fun b => b < w.heap.size) (fun b hb => hs.fz b hb) (fun _ b hb => hb) hx hc
            refine ⟨sp.ret.val (plainVs sp.items y), retA_ok sp.ret (plainAs_ok sp.items y), fun w' hb => ?_⟩
            unfold Oper.quietAt
            rw [run_call e1 e2 e3 ho hfo w', hargs]
            refine ⟨rfl, (hends x y hy w' (fun b => b < w.heap.size) vals (fun b hlt => Nat.lt_of_lt_of_le hlt hb.size) (Rd.step (fun b hlt => hb.block b hlt) (fun _ q => q) hR)).mono ?_⟩
            rintro e w2 ⟨rc, F', rfl, hb2, _, hri, _⟩
            exact ⟨by rw [RIs.plainVs hp hri], below_then hb hb.size hb2⟩
          · cases h
        · cases h
    · cases h
  · cases h
/-- All quiet operations. -/
def opq (P : Program) (fns : Fns) (o : Oper) (s : St) (k : AV → Option R) : Option R :=
  match o.op with
  | .move x => qMove s x k
  | .assign x => qMove s x k
  | .pick c x y => qPick s c x y k
  | .binOp .quo _ x y _ => qDiv .quo s x y k
  | .binOp .rem _ x y _ => qDiv .rem s x y k
  | .binOp .shl _ x y _ => qShift .shl s x y k
  | .binOp .shr _ x y _ => qShift .shr s x y k
  | .binOp .. => qCalm P o s k
  | .unOp .. => qCalm P o s k
  | .convert .. => qCalm P o s k
  | .index .. => qCalm P o s k
  | .extract x i => qExtract s x i k
  | .field T x i => qField P s T x i k
  | .load T x => qLoad P s T x k
  | .fieldAddr T x i => qFieldAddr P s T x i k
  | .indexAddr T x i => qIndexAddr P s T x i k
  | .slice T x lo hi none => qSlice P s T x lo hi k
  | .build T parts => qBuild P s T parts k
  | .makeFunc fn first captured => qMakeFunc s fn first captured k
  | .nilCheck x => qNil s x k
  | .call { callee := .builtin .len, args := ⟨[x]⟩, argTypes := ⟨[T]⟩ } => qLen P s T x k
  | .call { callee := .builtin .min, args := ⟨[x, y]⟩, argTypes := _ } => qMin true s x y k
  | .call { callee := .builtin .max, args := ⟨[x, y]⟩, argTypes := _ } => qMin false s x y k
  | .call { callee := .value fo, args := args, argTypes := _ } => qCall fns s fo args k
  | _ => none
theorem opq_ok {P : Program} {fns : Fns} (hg : fns.good P) {o : Oper} {s : St} {k : AV → Option R} {r : R} (h : opq P fns o s k = some r) : QOk P o s k r := by
  unfold opq at h
  split at h
  all_goals rename_i ho
  all_goals first
    | exact qMove_ok (.inl ho) h
    | exact qMove_ok (.inr ho) h
    | exact qPick_ok ho h
    | exact qDiv_ok ho (.inl rfl) h
    | exact qDiv_ok ho (.inr rfl) h
    | exact qShift_ok ho (.inl rfl) h
    | exact qShift_ok ho (.inr rfl) h
    | exact qExtract_ok ho h
    | exact qField_ok ho h
    | exact qLoad_ok ho h
    | exact qFieldAddr_ok ho h
    | exact qIndexAddr_ok ho h
    | exact qSlice_ok ho h
    | exact qBuild_ok ho h
    | exact qMakeFunc_ok ho h
    | exact qNil_ok ho h
    | exact qLen_ok ho h
    | exact qMin_ok (least := true) ho h
    | exact qMin_ok (least := false) ho h
    | exact qCall_ok hg ho h
    | (cases h; done)
    | exact qCalm_ok (fun cs b e => by rw [e] at ho; cases ho) h
    | skip
  all_goals exact qCalm_ok (fun cs b e => by simp_all) h
end
end Go.Vx
