/- Functions as the abstract executor tells them: equations, and contracts; printed by a tool. -/
import Derived.Test.YtchpkglnmpmcmaaX47
namespace Go.Proofs.Ytchpkglnmpmcmaa.V47
open Go Go.Vx Go.Proofs
open Go.IntKind (i8 i64 u8 u64)
set_option linter.unusedVariables false
set_option maxRecDepth 100000
noncomputable def plexuslaw47_every.s0 : Vx.Spec := ⟨[some 2, none], (.pair (K.pair (K.int i64) (K.slice (K.int u64))) (K.int i64)), [.own ((K.pair (K.int i64) (K.pair (K.int i64) (K.pair (K.int i64) (K.pair (K.int i64) (K.slice (K.int u64))))))) 38, .im (K.bool)], .tup [none, none], true, fun _ => none⟩
noncomputable def plexuslaw47_every.fns (k : Nat) : Vx.Fns := [(17, plexuslaw47_shown.sp k)]
theorem plexuslaw47_every.fns_good (k : Nat) : (plexuslaw47_every.fns k).good Try.prog := (Vx.Fns.good_cons (plexuslaw47_shown.good k) Vx.Fns.good_nil)
def plexuslaw47_every.ann : List (Nat × Ann) := [(1000003, ⟨rg [(0, 1), (3, 3), (8, 23)], []⟩)]
noncomputable def plexuslaw47_every.l0 (n_ k : Nat)  (a0 : Int × List Int) (a1 : Int) (v1 : Int) (v4 : List (Int × Int × Int × Int × List Int)) : Option (List (Int × Int × Int × Int × List Int) × Bool) :=
  loopK n_ (exec Try.prog (plexuslaw47_every.fns k) plexuslaw47_every.ann k (subC [1, 1, 0, 1, 0, 0] (Vx.bodyOf Try.f27))) (nmOf plexuslaw47_every.ann (subC [1, 1, 0, 1, 0, 0] (Vx.bodyOf Try.f27))) ({ tmps := [AV.dead, AV.val (Value.int i64 a1), AV.ptr 0 0] ++ dz 3 ++ [AV.own 1, AV.val (Value.int i64 v1)] ++ dz 23, ents := [(0, Ent.box 30 [AV.val (Value.int i64 a0.fst), AV.sh (K.int u64) a0.snd]), (1, Ent.row { k := K.pair (K.int i64) (K.pair (K.int i64) (K.pair (K.int i64) (K.pair (K.int i64) (K.slice (K.int u64))))), T := 38, fz := false, xs := v4 })], nx := 2 }) (contC Try.prog (plexuslaw47_every.fns k) plexuslaw47_every.ann k [1, 1, 0, 1, 0] [] (Vx.bodyOf Try.f27) (finK Try.prog (plexuslaw47_every.s0) Try.f27.results.toList))
theorem plexuslaw47_every.l0_succ (n0 k : Nat)  (a0 : Int × List Int) (a1 : Int) (v1 : Int) (v4 : List (Int × Int × Int × Int × List Int)) : plexuslaw47_every.l0 (n0 + 1) k  a0 a1 (v1) (v4) = (if (decide (v1 ≤ (↑(List.length a0.snd) : Int))) = true then (Option.bind (plexuslaw47_shown.m k (a0.fst, a0.snd) a1 v1) fun (r73 : (Int × Int × Int × Int × List Int) × Int) => (if (r73.snd != 0) = true then some ((v4, false)) else (if (List.length v4 + List.length [(r73.fst.fst, r73.fst.snd.fst, r73.fst.snd.snd.fst, r73.fst.snd.snd.snd.fst, r73.fst.snd.snd.snd.snd)]) * 56 ≤ 140737488355328 then (plexuslaw47_every.l0 n0 k  a0 a1 (IntKind.wrap i64 (v1 + 1)) (v4 ++ [(r73.fst.fst, r73.fst.snd.fst, r73.fst.snd.snd.fst, r73.fst.snd.snd.snd.fst, r73.fst.snd.snd.snd.snd)])) else none))) else some ((v4, true))) := by kernel_rfl
noncomputable def plexuslaw47_every.m (k : Nat) (a0 : Int × List Int) (a1 : Int) : Option (List (Int × Int × Int × Int × List Int) × Bool) :=
  execF Try.prog (plexuslaw47_every.fns k) plexuslaw47_every.ann k (plexuslaw47_every.s0) 31 Try.f27.results.toList (Vx.bodyOf Try.f27) (a0, a1)
theorem plexuslaw47_every.m_eq (k : Nat) (a0 : Int × List Int) (a1 : Int) : plexuslaw47_every.m k a0 a1 = (plexuslaw47_every.l0 k k  a0 a1 (0) ([])) := by kernel_rfl
noncomputable def plexuslaw47_every.sp (k : Nat) : Vx.Spec := plexuslaw47_every.s0.runs fun (x : plexuslaw47_every.s0.argK.T) => plexuslaw47_every.m k x.1 x.2
theorem plexuslaw47_every.good (k : Nat) : Vx.Good Try.prog 27 (plexuslaw47_every.sp k) := Vx.good_runs Try.func27 (show Try.f27.body = some (Vx.bodyOf Try.f27) by kernel_rfl) (by kernel_rfl) (by kernel_rfl) (plexuslaw47_every.fns_good k) fun x r h => h
end Go.Proofs.Ytchpkglnmpmcmaa.V47
