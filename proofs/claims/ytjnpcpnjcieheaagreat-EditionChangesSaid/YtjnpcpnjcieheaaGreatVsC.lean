/- slices.Clone of editions: whether the list is nil or not, what it returns are the same elements. -/
import Derived.Test.YtjnpcpnjcieheaaGreatVB
import Derived.Test.YtjnpcpnjcieheaaGreatProg
import Derived.KernelRfl
import Derived.Lib.SliceRun
namespace Go.Proofs.YtjnpcpnjcieheaaGreat.V48
open Go Go.Vx Go.RowKit Go.Proofs.YtjnpcpnjcieheaaGreatW.PrintWords
set_option linter.unusedVariables false
set_option linter.unusedSimpArgs false
set_option maxRecDepth 100000
abbrev kEd : K := .pair (.int .i64) (.pair (.int .u64) (.pair (.int .u64) (.int .u64)))
noncomputable def cClone.m (k : Nat) (a0 : List kEd.T) : Option (List kEd.T) := if (0 + List.length a0) * 32 ≤ 140737488355328 then some a0 else none
noncomputable def cClone.sp (k : Nat) : Vx.Spec := ⟨[none], .slice kEd, [.own kEd 42], .one none, false, fun (x : List kEd.T) => cClone.m k x⟩
noncomputable def cClone.code : Code := Go.Vx.bodyOf Tryz.f67
def sub0 : Code → Code
  | .seq a _ => a
  | .cond _ a _ => a
  | c => c
def sub1 : Code → Code
  | .seq _ b => b
  | .cond _ _ b => b
  | c => c
noncomputable def cClone.K (k : Nat) : AEx → St → Option (List kEd.T) := finK Tryz.prog (cClone.sp k) Tryz.f67.results.toList
noncomputable def cClone.s3 (k : Nat) (x : List kEd.T) (b : Bool) : St := ((((entry (cClone.sp k) 8 x).put (some 2) (.val (.slice none 0 0))).put (some 3) (.sh kEd x)).put (some 4) (.val (.bool b)))
noncomputable def cClone.K2 (k : Nat) : AEx → St → Option (List kEd.T) := fun e s => match e with
  | .ret => cClone.K k .ret s
  | _ => none
theorem cClone.e0 (k : Nat) (x : List kEd.T) : exec (R := St) Tryz.prog [] [] 0 (sub0 cClone.code) (entry (cClone.sp k) 8 x) (fun e s => match e with | .normal => some s | _ => none) = some ((entry (cClone.sp k) 8 x).put (some 2) (.val (.slice none 0 0))) := by kernel_rfl
theorem cClone.eN (k : Nat) : exec Tryz.prog [] [] 0 (sub0 (sub1 (sub0 (sub1 cClone.code)))) (cClone.s3 k [] true) (cClone.K2 k) = some [] := by kernel_rfl
theorem cClone.eS (k : Nat) (x : List kEd.T) : exec Tryz.prog [] [] 0 (sub1 (sub1 cClone.code)) (cClone.s3 k x false) (cClone.K k) = cClone.m k x := by kernel_rfl
theorem cClone.good (k : Nat) : Vx.Good Tryz.prog 67 (cClone.sp k) := by
  refine good_wp Tryz.func67 (show Tryz.f67.body = some (Go.Vx.bodyOf Tryz.f67) by kernel_rfl) (by kernel_rfl) fun x r hx W0 E a w hs => ?_
  have hx : cClone.m k x = some r := hx
  have A0 := exec_ok (P := Tryz.prog) Fns.good_nil (by kernel_rfl) (sub0 cClone.code) _ _ E a w (cClone.e0 k x) hs
  refine wp_seq (wp_mono A0 ?_)
  intro e a1 w1 hp
  cases e with
  | normal =>
    obtain ⟨s1, E1, h1, hs1⟩ := hp
    obtain rfl := Option.some.inj h1
    have hsl : VR E1 w1 (.sh kEd x) (a1.tmps.getD 0 undef) := hs1.slots 0
    have hsl' := hsl
    obtain ⟨A, c, e1, hc, hr, hF⟩ := hsl'
    have e1 : a1.tmps.getD 0 undef = .slice A (List.length x) c := by injection e1
    refine wp_seq (wp_seq (wp_region_list ?_))
    have hs2 : Sim W0 E1 _ (a1.put (some 3) (a1.tmps.getD 0 undef)) w1 := hs1.put (some 3) (av := .sh kEd x) hsl
    have hs3 : ∀ b : Bool, Sim W0 E1 (cClone.s3 k x b) ((a1.put (some 3) (a1.tmps.getD 0 undef)).put (some 4) (.bool b)) w1 := fun b => hs2.put (some 4) (av := .val (.bool b)) rfl
    have e3 : (a1.put (some 3) (a1.tmps.getD 0 undef)).eval (.tmp 3) = .slice A (List.length x) c := by
      have := hs2.slots 3
      have q : (a1.put (some 3) (a1.tmps.getD 0 undef)).eval (.tmp 3) = (a1.put (some 3) (a1.tmps.getD 0 undef)).tmps.getD 3 undef := by simp [Act.eval, Array.getD_eq_getD_getElem?]
      rw [q, put_getD, if_pos ⟨rfl, by rw [hs1.tl]; exact (show (3 : Nat) < 8 by decide)⟩]
      exact e1
    have e0 : a1.eval (.tmp 0) = a1.tmps.getD 0 undef := by simp [Act.eval, Array.getD_eq_getD_getElem?]
    refine wpList_step fun K hK => ?_
    rw [if_pos (by rfl)]
    show K (a1.put (some 3) (a1.eval (.tmp 0))) w1
    rw [e0]
    refine hK _ _ (wpList_step fun K2 hK2 => ?_)
    rw [if_pos (by rfl)]
    unfold Oper.wp
    have hu : Tryz.prog.underlying 30 = some (.slice 42) := by kernel_rfl
    have run : (execOp (a1.put (some 3) (a1.tmps.getD 0 undef)).eval { dst := some 4, op := .binOp .eql 30 (.tmp 3) (.const (.slice none 0 0)) 30, type := 4, pos := "", after := #[], guard := none }).run Tryz.prog w1 = .ok (.value (.bool A.isNone)) w1 := by
      simp only [execOp, e3]
      have ec : (a1.put (some 3) (a1.tmps.getD 0 undef)).eval (.const (.slice none 0 0)) = .slice none 0 0 := rfl
      rw [ec]
      simp [Sem.run_bind, eqGuard, Lib.run_eql_slice_nil w1 30 42 A (List.length x) c 0 0 hu]
    show Oper.upon _ _ _ _ _ ((execOp (a1.put (some 3) (a1.tmps.getD 0 undef)).eval { dst := some 4, op := .binOp .eql 30 (.tmp 3) (.const (.slice none 0 0)) 30, type := 4, pos := "", after := #[], guard := none }).run Tryz.prog w1)
    rw [run]
    show K2 ((a1.put (some 3) (a1.tmps.getD 0 undef)).put (some 4) (.bool A.isNone)) w1
    refine hK2 _ _ ?_
    have ec4 : ∀ b : Bool, ((a1.put (some 3) (a1.tmps.getD 0 undef)).put (some 4) (.bool b)).eval (.tmp 4) = .bool b := fun b => by
      have := (hs3 b).ev (.tmp 4)
      exact this
    cases A with
    | none =>
      have hx0 : x = [] := by
        cases x with
        | nil => rfl
        | cons y ys =>
          obtain ⟨ad, q, _⟩ := hr.2.2 (show 0 < List.length (y :: ys) by simp)
          cases q
      subst hx0
      have hr0 : r = [] := by
        have : cClone.m k [] = some [] := by unfold cClone.m; rfl
        rw [this] at hx
        exact (Option.some.inj hx).symm
      subst hr0
      refine wp_cond (ec4 true) ?_
      rw [if_pos rfl]
      refine wp_mono (exec_ok (P := Tryz.prog) Fns.good_nil (by kernel_rfl) (sub0 (sub1 (sub0 (sub1 cClone.code)))) _ _ E1 _ w1 (cClone.eN k) (hs3 true)) ?_
      intro e a2 w2 hp2
      cases e with
      | normal =>
        obtain ⟨s', E', h', _⟩ := hp2
        cases h'
      | ret => exact hp2
      | exit id =>
        obtain ⟨s', E', h', _⟩ := hp2
        cases h'
      | goto l => exact hp2.elim
      | panic ch => exact hp2.elim
      | outgrown => exact hp2.elim
    | some ad =>
      refine wp_cond (ec4 false) ?_
      rw [if_neg (by decide)]
      refine wp_skip ?_
      exact exec_ok (P := Tryz.prog) Fns.good_nil (by kernel_rfl) (sub1 (sub1 cClone.code)) _ _ E1 _ w1 ((cClone.eS k x).trans hx) (hs3 false)
  | exit id => obtain ⟨s', E', h', _⟩ := hp; cases h'
  | ret => obtain ⟨s', E', h', _⟩ := hp; cases h'
  | goto l => exact hp.elim
  | panic ch => exact hp.elim
  | outgrown => exact hp.elim
end Go.Proofs.YtjnpcpnjcieheaaGreat.V48
