/- Contracts of functions; what quiet operations yield, one kind of operations at a time. -/
import Derived.Test.YtcanekmlabehgaaVc
namespace Go.Vx
open Go.RowKit Go.Proofs.YtcanekmlabehgaaW.PrintWords
set_option linter.unusedVariables false
set_option linter.unusedSimpArgs false

/-! ### contracts -/
/-- Cells put together to values: 'none' is one cell, 'some n' an aggregate of n cells. -/
def joinA : List (Option Nat) → List Value → List Value
  | [], _ => []
  | none :: l, c :: cs => c :: joinA l cs
  | none :: _, [] => []
  | some n :: l, cs => .agg (cs.take n).toArray :: joinA l (cs.drop n)
inductive Item where
  | im (k : K)
  | own (k : K) (T : TypeId)
def Item.T : Item → Type
  | .im k => k.T
  | .own k _ => List k.T
def Item.sz : Item → Nat
  | .im k => k.sz
  | .own _ _ => 1
def itemsT : List Item → Type
  | [] => Unit
  | [a] => a.T
  | a :: b :: l => a.T × itemsT (b :: l)
/-- How results' cells are put together: one value, or a tuple. -/
inductive Ret where
  | one (s : Option Nat)
  | tup (l : List (Option Nat))
def Ret.val : Ret → List Value → Value
  | .one none, cs => cs.getD 0 undef
  | .one (some n), cs => .agg (cs.take n).toArray
  | .tup l, cs => .tuple (joinA l cs).toArray
structure Spec where
  shape : List (Option Nat)
  argK : K
  items : List Item
  ret : Ret
  alias : Bool
  run : argK.T → Option (itemsT items)
def RI (B : Nat) (w : World) (F : Nat → Prop) : (i : Item) → i.T → List Value → Prop
  | .im k, x, cs => Rd w F k x cs
  | .own k T, xs, cs => ∃ v, cs = [v] ∧ (∃ cells, w.ownsRow B T k.sz v (List.length xs) cells ∧ Reps (Rd w F k) k.sz xs cells) ∧ ∀ b, blk v = some b → ¬ F b
def RIs (B : Nat) (w : World) (F : Nat → Prop) : (l : List Item) → itemsT l → List Value → Prop
  | [], _, cs => cs = []
  | [a], x, cs => RI B w F a x cs
  | a :: b :: l, x, cs => ∃ c0 c1, cs = c0 ++ c1 ∧ RI B w F a x.1 c0 ∧ RIs B w F (b :: l) x.2 c1
/-- The values that are rows of one's own. -/
def owns : List Item → List Value → List Value
  | [], _ => []
  | .im k :: l, cs => owns l (cs.drop k.sz)
  | .own _ _ :: l, cs => cs.take 1 ++ owns l (cs.drop 1)
def Ends (w : World) (F : Nat → Prop) (sp : Spec) (r : itemsT sp.items) (e : Ending) (w' : World) : Prop :=
  ∃ (rc : List Value) (F' : Nat → Prop), e = .returned (sp.ret.val rc) ∧ Below w.heap.size w w' ∧ (∀ b, F' b → b < w'.heap.size ∧ ((sp.alias = true ∧ F b) ∨ w.heap.size ≤ b)) ∧
    RIs w.heap.size w' F' sp.items r rc ∧ (owns sp.items rc).Pairwise (fun u v => ∀ b, blk u = some b → blk v ≠ some b)
structure Good (P : Program) (f : FuncId) (sp : Spec) : Prop where
  enters : ∃ fn, P.funcs[f]? = some fn ∧ fn.body.isSome = true ∧ (fn.name == "runtime.NumGoroutine") = false
  ends : ∀ (x : sp.argK.T) (r : itemsT sp.items), sp.run x = some r → ∀ (w : World) (F : Nat → Prop) (cells : List Value), (∀ b, F b → b < w.heap.size) → Rd w F sp.argK x cells →
    Calls P f (joinA sp.shape cells).toArray w (Ends w F sp r)
/-- Contracts, by the functions' numbers. -/
def Fns := List (Nat × Spec)
def Fns.get (l : Fns) (f : Nat) : Option Spec :=
  match l with
  | [] => none
  | (g, sp) :: l => bif Nat.beq f g then some sp else Fns.get l f
def Fns.good (P : Program) (l : Fns) : Prop := ∀ f sp, l.get f = some sp → Good P f sp
/-- Single cells without addresses. -/
def K.plain : K → Bool
  | .int _ => true
  | .bool => true
  | .str => true
  | .pair a b => a.plain && b.plain
  | _ => false
def plainI : List Item → Bool
  | [] => true
  | .im k :: l => k.plain && plainI l
  | .own _ _ :: _ => false
/-- Cells of plain data are these. -/
def plainV : (k : K) → k.T → List Value
  | .int k, x => [.int k x]
  | .bool, x => [.bool x]
  | .str, x => [.string x]
  | .pair a b, x => plainV a x.1 ++ plainV b x.2
  | _, _ => []
theorem Rd.plainV {w : World} {F : Nat → Prop} : ∀ {k : K} {x : k.T} {cs : List Value}, k.plain = true → Rd w F k x cs → cs = Vx.plainV k x
  | .int _, _, _, _, h => h
  | .bool, _, _, _, h => h
  | .str, _, _, _, h => h
  | .pair a b, _, _, hp, h => by
    obtain ⟨c0, c1, rfl, h0, h1⟩ := h
    simp only [K.plain, Bool.and_eq_true] at hp
    rw [Rd.plainV hp.1 h0, Rd.plainV hp.2 h1]; rfl
def plainVs : (l : List Item) → itemsT l → List Value
  | [], _ => []
  | [.im k], x => plainV k x
  | .im k :: b :: l, x => plainV k x.1 ++ plainVs (b :: l) x.2
  | _, _ => []
theorem RIs.plainVs {B : Nat} {w : World} {F : Nat → Prop} : ∀ {l : List Item} {x : itemsT l} {cs : List Value}, plainI l = true → RIs B w F l x cs → cs = Vx.plainVs l x
  | [], _, _, _, h => h
  | [.im k], _, _, hp, h => by
    simp only [plainI, Bool.and_true] at hp
    exact Rd.plainV hp h
  | .im k :: b :: l, _, _, hp, h => by
    obtain ⟨c0, c1, rfl, h0, h1⟩ := h
    rw [plainI, Bool.and_eq_true] at hp
    rw [Rd.plainV hp.1 h0, RIs.plainVs hp.2 h1]; rfl

/-! ### quiet operations -/
section
variable {R : Type}
def QOk (P : Program) (o : Oper) (s : St) (k : AV → Option R) (r : R) : Prop := ∃ av, k av = some r ∧ QTo P o s av
def qMove (s : St) (x : Operand) (k : AV → Option R) : Option R := k (evl s x)
theorem qMove_ok {P : Program} {o : Oper} {s : St} {x : Operand} {k : AV → Option R} {r : R} (ho : o.op = .move x ∨ o.op = .assign x) (h : qMove s x k = some r) : QOk P o s k r :=
  ⟨_, h, QTo.pure fun W0 E a w hs => ⟨_, hs.ev x, fun w' _ => by rcases ho with ho | ho <;> simp [execOp, ho] <;> rfl⟩⟩
def qPick (s : St) (c x y : Operand) (k : AV → Option R) : Option R :=
  match evl s c with
  | .val (.bool b) => oif (b = true) (k (evl s x)) (k (evl s y))
  | _ => none
theorem qPick_ok {P : Program} {o : Oper} {s : St} {c x y : Operand} {k : AV → Option R} {r : R} (ho : o.op = .pick c x y) (h : qPick s c x y k = some r) : QOk P o s k r := by
  unfold qPick oif at h
  split at h
  · rename_i b hc
    have key : ∀ (W0 : Base) (E : Env) (a : Act) (w : World), Sim W0 E s a w → a.eval c = .bool b := fun W0 E a w hs => by
      have := hs.ev c
      rw [hc] at this
      exact this
    split at h
    · rename_i hb
      refine ⟨_, h, QTo.pure fun W0 E a w hs => ⟨_, hs.ev x, fun w' _ => ?_⟩⟩
      simp [execOp, ho, key W0 E a w hs, asBool, hb]
    · rename_i hb
      refine ⟨_, h, QTo.pure fun W0 E a w hs => ⟨_, hs.ev y, fun w' _ => ?_⟩⟩
      simp [execOp, ho, key W0 E a w hs, asBool, hb]
  · cases h
/-- An operation on plain values. -/
def qCalm (P : Program) (o : Oper) (s : St) (k : AV → Option R) : Option R :=
  bif o.op.operands.toList.all (isVal s) then
    match calm P (execOp (opnd s) o) with
    | some (.value v) => k (.val v)
    | _ => none
  else none
theorem qCalm_ok {P : Program} {o : Oper} {s : St} {k : AV → Option R} {r : R} (ho : ∀ cs b, o.op ≠ .select cs b) (h : qCalm P o s k = some r) : QOk P o s k r := by
  unfold qCalm at h
  cases hv : o.op.operands.toList.all (isVal s) with
  | false => rw [hv] at h; cases h
  | true =>
    rw [hv] at h
    simp only [cond_true] at h
    split at h
    · rename_i v hc
      exact ⟨_, h, QTo.calm ho hv hc⟩
    · cases h
def divF (op : BinOp) (k : IntKind) (x y : Int) : Int :=
  match op with
  | .quo => k.wrap (x.tdiv y)
  | _ => x.tmod y
/-- A division. -/
def qDiv (op : BinOp) (s : St) (x y : Operand) (k : AV → Option R) : Option R :=
  match evl s x, evl s y with
  | .val (.int kx a), .val (.int ky b) => if kx = ky then (oif (b = 0) none (k (.val (.int kx (divF op kx a b))))) else none
  | _, _ => none
theorem qDiv_ok {P : Program} {o : Oper} {s : St} {op : BinOp} {T U : TypeId} {x y : Operand} {k : AV → Option R} {r : R} (ho : o.op = .binOp op T x y U) (hop : op = .quo ∨ op = .rem) (h : qDiv op s x y k = some r) : QOk P o s k r := by
  unfold qDiv oif at h
  split at h
  · rename_i kx a ky b hx hy
    split at h
    · rename_i hk
      subst hk
      split at h
      · cases h
      · rename_i hb
        refine ⟨_, h, QTo.pure fun W0 E ac w hs => ⟨_, rfl, fun w' _ => ?_⟩⟩
        have e1 : ac.eval x = .int kx a := by have := hs.ev x; rw [hx] at this; exact this
        have e2 : ac.eval y = .int kx b := by have := hs.ev y; rw [hy] at this; exact this
        rcases hop with rfl | rfl <;> simp [execOp, ho, e1, e2, eqGuard, binOp, Op.intDiv, hb, divF, Sem.run_bind, Sem.run_pure]
    · cases h
  · cases h
def shF (op : BinOp) (k : IntKind) (x y : Int) : Int :=
  match op with
  | .shl => k.wrap (x * 2 ^ min y.toNat k.bits)
  | _ => x.fdiv (2 ^ min y.toNat k.bits)
/-- A shift. -/
def qShift (op : BinOp) (s : St) (x y : Operand) (k : AV → Option R) : Option R :=
  match evl s x, evl s y with
  | .val (.int kx a), .val (.int _ b) => oif (b < 0) none (k (.val (.int kx (shF op kx a b))))
  | _, _ => none
theorem qShift_ok {P : Program} {o : Oper} {s : St} {op : BinOp} {T U : TypeId} {x y : Operand} {k : AV → Option R} {r : R} (ho : o.op = .binOp op T x y U) (hop : op = .shl ∨ op = .shr) (h : qShift op s x y k = some r) : QOk P o s k r := by
  unfold qShift oif at h
  split at h
  · rename_i kx a ky b hx hy
    split at h
    · cases h
    · rename_i hb
      refine ⟨_, h, QTo.pure fun W0 E ac w hs => ⟨_, rfl, fun w' _ => ?_⟩⟩
      have e1 : ac.eval x = .int kx a := by have := hs.ev x; rw [hx] at this; exact this
      have e2 : ac.eval y = .int ky b := by have := hs.ev y; rw [hy] at this; exact this
      rcases hop with rfl | rfl <;> simp [execOp, ho, e1, e2, eqGuard, binOp, Op.shift, hb, shF, Sem.run_bind, Sem.run_pure]
  · cases h
/-- A component of a tuple. -/
def qExtract (s : St) (x : Operand) (i : Nat) (k : AV → Option R) : Option R :=
  match evl s x with
  | .tup cs => bif Nat.blt i cs.length then k (nth cs i) else none
  | _ => none
theorem qExtract_ok {P : Program} {o : Oper} {s : St} {x : Operand} {i : Nat} {k : AV → Option R} {r : R} (ho : o.op = .extract x i) (h : qExtract s x i k = some r) : QOk P o s k r := by
  unfold qExtract at h
  split at h
  · rename_i cs hx
    cases hl : Nat.blt i cs.length with
    | false => rw [hl] at h; cases h
    | true =>
      rw [hl] at h
      have hlt : i < cs.length := Nat.le_of_ble_eq_true hl
      refine ⟨_, h, QTo.pure fun W0 E a w hs => ?_⟩
      have := hs.ev x
      rw [hx] at this
      obtain ⟨vals, e, hc⟩ := this
      obtain ⟨v, hv, hR⟩ := hc.nth hlt
      refine ⟨v, hR.r, fun w' _ => ?_⟩
      simp [execOp, ho, e, Instr.extract, hv]
  · cases h
/-- A part of an aggregate. -/
def qField (P : Program) (s : St) (T : TypeId) (x : Operand) (i : Nat) (k : AV → Option R) : Option R :=
  match evl s x, P.underlying T with
  | .agg cs, some (.struct fs) => match fs[i]? with
    | some f => match take1 P f.type (cs.drop f.offset) with
      | some av => k av
      | none => none
    | none => none
  | _, _ => none
theorem part_run {P : Program} {T : TypeId} {off : Nat} {cells : List AV} {av : AV} {E : Env} {w : World} {vals : List Value} (h : take1 P T (cells.drop off) = some av) (hv : All2 (VB E w) cells vals) :
    ∃ v, VR E w av v ∧ ∀ w', (part T vals.toArray off).run P w' = .ok v w' := by
  unfold take1 at h
  split at h
  · rename_i d i hd hi
    cases ha : aggD d with
    | true =>
      rw [ha] at h
      simp only [cond_true] at h
      cases hl : Nat.ble i.size (cells.drop off).length with
      | false => rw [hl] at h; cases h
      | true =>
        rw [hl] at h
        obtain rfl := Option.some.inj h
        refine ⟨.agg ((vals.drop off).take i.size).toArray, ⟨_, rfl, (hv.drop off).take _⟩, fun w' => ?_⟩
        simp only [part, Sem.run_bind, run_isAgg hd, ha, Result.andThen_ok, if_true, sizeOf, typeInfo, program, Sem.run, hi]
        simp [Sem.run, Sem.run_bind, hi, List.extract_eq_drop_take']
    | false =>
      rw [ha] at h
      simp only [cond_false] at h
      split at h
      · rename_i c l hc
        obtain rfl := Option.some.inj h
        have hd' := hv.drop off
        rw [hc] at hd'
        match hm : vals.drop off, hd' with
        | u :: m, hd' =>
          refine ⟨u, hd'.1.r, fun w' => ?_⟩
          have hu : vals[off]? = some u := by
            have := List.getElem?_drop (xs := vals) (i := off) (j := 0)
            rw [hm] at this
            simpa using this.symm
          simp [part, Sem.run_bind, run_isAgg hd, ha, hu]
      · cases h
  · cases h
end
end Go.Vx
